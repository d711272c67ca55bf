/- The example's datagram for a device, in plain Lean and made (layer 37). -/
import Derived.Test.YtincjochpkdnfaaGreatDoorV32
import Derived.Test.YtincjochpkdnfaaGreatDoorV34
import Derived.Test.YtincjochpkdnfaaGreatDoorV35
import Derived.Test.YtincjochpkdnfaaGreatDoorV36
set_option linter.all false
set_option maxHeartbeats 2000000
set_option maxRecDepth 100000
namespace Go.Proofs.YtincjochpkdnfaaGreatDoor
section
open Go Go.RowKit Go.Shelf Go.Maps
def GB:e_:=⟨0,0,9,0,167837701,0,0⟩
def hn:List UInt8:=eP GB []
def AA:List UInt8:=dw hn
def CG:aS hn=0:=by decide+kernel
def vA:(aL hn).d=167837701:=by decide+kernel
def EX:hn.length=28:=by decide+kernel
def wM:(tx hn).size=28:=by rw[eb,EX]
def CH:List ct:=[(ia,[],g_),(ia,[tx hn],g_)]
def GC:b4 2 0 CH=[(1,tx AA)]:=by decide+kernel
def CI:cq ia.s.bk<=64/\ia.num<=64:=by decide+kernel
def EY:∀l∈CH,h_ 64 l:=by
 have hz:∀x∈g_,x<18446744073709551616:=λx a=>by rw[List.eq_of_mem_replicate a];decide
 intro l b;have:l=(ia,[],g_)\/l=(ia,[tx hn],g_):=by simpa[CH]using b
 rcases this with rfl|rfl
 ·exact⟨CI.1,CI.2,λx a=>(by cases a),hz⟩
 ·exact⟨CI.1,CI.2,λx a=>(by rw[H0.1 a,wM];decide),hz⟩
def CJ(w:World):Calls Tryz.prog 10 #[.agg #[.int .u8 0,.int .u8 0,.int .u16 0,.int .u8 9,.int .u32 0,.int .u32 167837701,.int .u16 0,.int .u16 0,.string ⟨#[]⟩,.int .u64 0]] w λe w'=>e=.returned (.string (tx hn))/\Kp ae w w':=by
 have b:=λW=>r0 GB ⟨⟨by decide,by decide,by decide⟩,by decide,by decide,by decide,by decide⟩ (by decide) ⟨#[]⟩ (by decide) W;have f:Hid (∀W,Calls Tryz.prog 27 #[.agg #[.int .u8 0,.int .u16 0,.int .u8 9,.int .u32 0,.int .u32 167837701,.int .u16 0,.int .u16 0],.string ⟨#[]⟩] W λe w'=>e=.returned (.tuple #[.string (tx hn),.int .i64 0])/\Kp ae W w'):=aa b;have c:=aa (ag.new w [.int .u8 0,.int .u8 0,.int .u16 0,.int .u8 9,.int .u32 0,.int .u32 167837701,.int .u16 0,.int .u16 0,.string ⟨#[]⟩,.int .u64 0] 44);have d:=aa ((Kp.refl ae w).alloc (.cells #[.int .u8 0,.int .u8 0,.int .u16 0,.int .u8 9,.int .u32 0,.int .u32 167837701,.int .u16 0,.int .u16 0,.string ⟨#[]⟩,.int .u64 0] 44));clear b;go_enter Tryz.func10,Tryz.ntmps10;go_wp2_with fail;refine(f.out _).mono ?_;rintro e w1 ⟨rfl,a⟩;have g:=aa (c.out.kp a (λx=>x));have c0:=g.out.ai;have h:=aa (d.out.trans a);clear a c d;go_wp2_with fail;go_ret;exact⟨rfl,h.out⟩
def EZ{l:List Rt}{T:Tr}(h:cr l T)(e:l=[]):∃b,T=.node b (0,0) false 0 .nil .nil:=by
 cases h with
 |nil b=>exact⟨b,rfl⟩
 |snoc l T r nb fb h=>simp at e
def AB{l m:List Rt}{r:Rt}{T:Tr}(h:cr l T)(e:l=m++[r]):∃a nb fb,cr m a/\T=a.put nb r.1 r.2 fb:=by
 cases h with
 |nil b=>simp at e
 |snoc l T c nb fb h=>
  obtain⟨rfl,d⟩:=List.append_inj' e rfl;obtain rfl:c=r:=by simpa using d
  exact⟨T,nb,fb,h,rfl⟩
def E0:Rt:=((167772160,8),0)
def GD:Rt:=((167837696,16),1)
def rv:List Rt:=[E0,GD]
def vB{T:Tr}(h:cr rv T):dx (T.az 167837701 none)=1/\fv (T.az 167837701 none)=true:=by
 obtain⟨f,a,c,d,rfl⟩:=AB (m:=[E0]) (r:=GD) h rfl;obtain⟨g,nb,fb,e,rfl⟩:=AB (m:=[]) (r:=E0) d rfl;obtain⟨b,rfl⟩:=EZ e rfl;constructor<;>kernel_rfl
def ua{P:Program}{ops:Array Oper}{rest:List Oper}{op:Oper}{a:Act}{w:World}{Q:Exit->Act->World->Prop}(b:op.guard=none){t:TypeId}(x y:Operand)(c:op.op=.buildSlice t 2 #[(0,x),(1,y)]){u v r:Value}{w':World}
    (d:(Instr.buildSlice t 2 #[(0,u),(1,v)]).run P w=.ok r w') (f:a.eval x=u) (hy:a.eval y=v) (h:wpList P ops Q rest (a.put op.dst r) w'):wpList P ops Q (op::rest) a w:=Kf b λ_ g=>by
 subst f hy;unfold Oper.wp execOp;have e:(#[(0,x),(1,y)]:Array (Nat×Operand)).map (λ(i,x)=>(i,a.eval x))=#[(0,a.eval x),(1,a.eval y)]:=by simp
 simp only[c,e,IG,d,IC,IP];exact g _ _ h
def vS(b c:Nat):List Value:=cx og (.slice (some ⟨b,0,none⟩) 2 2) (.slice (some ⟨c,0,none⟩) 1 1)
def G4(b c a d:Nat)(W:World):(Instr.buildSlice 22 2 #[(0,.agg (vS b c).toArray),(1,.agg (vS a d).toArray)]).run Tryz.prog W=.ok (.slice (some ⟨W.heap.size,0,none⟩) 2 2) (W.alloc (.cells (vS b c++vS a d).toArray 68)):=by kernel_rfl
def G5(W:World):(Instr.buildSlice 23 2 #[(0,.agg #[.int .u32 167772160,.int .i64 8,.int .i64 0]),(1,.agg #[.int .u32 167837696,.int .i64 16,.int .i64 1])]).run Tryz.prog W=.ok (.slice (some ⟨W.heap.size,0,none⟩) 2 2) (W.alloc (.cells Hh 74)):=by kernel_rfl
def qS(b c:Nat):fi:=⟨og,.slice (some ⟨b,0,none⟩) 2 2,.slice (some ⟨c,0,none⟩) 1 1⟩
def CK(b c a d:Nat): [qS b c,qS a d].flatMap bE=vS b c++vS a d:=by
 simp only[Iv,Ko,HH];rfl
def pY:rv.flatMap ra=Hf:=rfl
def CL:List bX:=[⟨167772160,8,0⟩,⟨167837696,16,1⟩]
def ny:CL.flatMap fw=Hf:=rfl
def E1(W:World)(b b2 c f pb rb:Nat)(g:ag W b (hA.flatMap cv) 106)(i:ag W b2 (qg.flatMap cR) 108)(j:ag W c (hA.flatMap cv) 106)(k:ag W f (qg.flatMap cR) 108)
    (l:ag W pb (vS b b2++vS c f) 68) (m:ag W rb Hf 74):
    Calls Tryz.prog 8 #[.agg #[.slice (some ⟨pb,0,none⟩) 2 2,.slice (some ⟨rb,0,none⟩) 2 2,.int .i64 2,.int .i64 2]] W λe w'=>∃a d,e=.returned (.agg #[a,d,.int .i64 2,.int .i64 2])/\Sl w' a 2 16 ([qS b b2,qS c f].flatMap bE)/\Sl w' d 2 3 (rv.flatMap ra)/\Kp ae W w':=
 by
 have h:=vy [qS b b2,qS c f] CL 2 2 W (by simp) (by decide) (λq n=>by
  have:q=qS b b2\/q=qS c f:=by simpa using n
  rcases this with rfl|rfl
  ·exact⟨e7 g 2 5 rfl (by decide),e7 i 1 7 rfl (by decide)⟩
  ·exact⟨e7 j 2 5 rfl (by decide),e7 k 1 7 rfl (by decide)⟩) _ _ (by rw[CK];exact e7 l 2 16 rfl (by decide)) (by rw[ny];exact e7 m 2 3 rfl (by decide))
 refine h.mono ?_;rintro e w' ⟨a,d,g,i,j,k⟩;exact⟨a,d,g,i,by rw[pY,<-ny];exact j,k⟩
def GF(W:World)(b b2 c h:Nat)(k:ag W b (hA.flatMap cv) 106)(l:ag W b2 (qg.flatMap cR) 108)(m:ag W c (hA.flatMap cv) 106)(n:ag W h (qg.flatMap cR) 108)(pv o:Value)
    (i:Sl W pv 2 16 ([qS b b2,qS c h].flatMap bE)) (p:Sl W o 2 3 (rv.flatMap ra)):
    Calls Tryz.prog 7 #[.agg #[pv,o,.int .i64 2,.int .i64 2]] W λe w'=>∃(d:aX) (a f:Ln),e=.returned (.tuple #[.pointer (some ⟨d.db,0,none⟩),.int .i64 0])/\c2 w' d/\cr rv d.T/\d.room=2/\d.batch=2/\d.ls=[a,f]/\aC a=(ia,[],g_)/\aC f=(ia,[],g_)/\W.heap.size<=d.db/\Kp ae W w':=by
 have hm:∀q∈[qS b b2,qS c h],q.pc=og/\(Sl W q.v 2 5 (hA.flatMap cv)/\Sl W q.u 1 7 (qg.flatMap cR)):=λq g=>by
  have:q=qS b b2\/q=qS c h:=by simpa using g
  rcases this with rfl|rfl
  ·exact⟨rfl,e7 k 2 5 rfl (by decide),e7 l 1 7 rfl (by decide)⟩
  ·exact⟨rfl,e7 m 2 5 rfl (by decide),e7 n 1 7 rfl (by decide)⟩
 have:=sF [qS b b2,qS c h] CL 2 2 W ⟨λq g=>by rw[(hm q g).1];exact wJ,λq g=>by rw[(hm q g).1];exact(hm q g).2⟩ (λr t=>by
  have:r=⟨167772160,8,0⟩\/r=⟨167837696,16,1⟩:=by simpa[CL]using t
  rcases this with rfl|rfl
  ·exact⟨by decide,by decide,by decide⟩
  ·exact⟨by decide,by decide,by decide⟩) (by decide) pv o i (by rw[ny,<-pY];exact p) (by kernel_rfl)
 refine this.mono ?_;rintro e w' ⟨d,rfl,k,l,m,n,i,p,w⟩;obtain⟨a,f,j⟩:∃a f,d.ls=[a,f]:=by
  have hlen:=HC List.length i;simp at hlen;match hd:d.ls,hlen with
  | [a,f],_=>exact⟨a,f,rfl⟩
 rw[j]at i
 have s: [aC a,aC f]=[(ia,[],g_),(ia,[],g_)]:=i;injection s with x s;injection s with y _;exact⟨d,a,f,rfl,k,l,m,n,j,x,y,p,w⟩
def G6{W:World}{d:aX}{g c:Ln}(h:c2 W d)(i:cr rv d.T)(m:d.room=2)(a:d.ls=[g,c])(f:c.q=[]):
    Calls Tryz.prog 9 #[.pointer (some ⟨d.db,0,none⟩),.string (tx hn)] W λe w'=>e=.returned (.tuple #[.int .i64 1,.int .i64 0])/\c2 w' {d with ls:=[g,{c with q:=[tx hn]}]}/\Kp (λb=>d.d_<=b) W w':=by
 have hi:1<d.ls.length:=by rw[a];simp
 have k:d.ls[1]=c:=by simp[a]
 have l:=vB i;have:=wH h (tx hn) (by rw[wM];decide) (by rw[cP];exact CG) (by rw[cP,vA];decide) 1 hi (by rw[cP,vA];exact l.1) (by rw[cP,vA];exact l.2) (by rw[k,f,m];decide);refine this.mono ?_;rintro e w' ⟨rfl,j,n⟩;rw[k,f]at j
 have o:d.ls.set 1 {c with q:=[]++[tx hn]}=[g,{c with q:=[tx hn]}]:=by rw[a];rfl
 rw[o]at j
 refine⟨rfl,j,n.mono (λx _ e=> ?_)⟩;have p:x=d.ls[1].xc:=e;exact(h.at_ _ (Ht hi) x (.inl (.inr (.inr (.inl p))))).1
def E2{W:World}{d:aX}{c f:Ln}(h:c2 W d)(g:d.batch=2)(a:d.ls=[c,f])(i:aC c=(ia,[],g_))(j:aC f=(ia,[tx hn],g_))(k:dH W)(m:0<d.d_):
    Calls Tryz.prog 13 #[.pointer (some ⟨d.db,0,none⟩)] W λe w'=>∃v,e=.returned v/\Sl w' v 1 2 [.int .i64 1,.string (tx AA)]/\Kp (λx=>d.d_<=x) W w':=by
 have hm:d.ls.map aC=CH:=by rw[a,HA,HA,Ik,i,j];rfl
 have:=oB (n:=64) h k m (by rw[a];show 2<=8;omega) (by omega) (λl b=>EY _ (by rw[<-hm];exact Km b)) (by decide);rw[hm,g,GC]at this
 refine this.mono ?_;rintro e w' ⟨v,ls,rfl,o,_,_,p,_⟩;exact⟨v,rfl,gG o,p.mono (λx _ ⟨l,b,q⟩=>(h.at_ l b x (.inl q)).1)⟩
def wN(w:World)(hT:dH w):Calls Tryz.prog 6 #[] w λe w'=>e=.returned (.bool true)/\Kp ae w w':=by
 have aP:=aa (λW=>Ap W);have aO:=aa hT;have aQ:=G5;clear hT;go_enter Tryz.func6,Tryz.ntmps6;go_wp2_with fail;refine(aP.out _).mono ?_;rintro e w1 ⟨b,b2,rfl,I,J,p,r,K⟩;have L:=aa I;have M:=aa J;have N:=aa K;clear I J p r K;go_wp2_with fail;refine(aP.out _).mono ?_;rintro e i ⟨c,H,rfl,hc,O,p,r,j⟩;have s:=aa hc;have t:=aa O;have u:=aa (L.out.kp j (λx=>x));have y:=aa (M.out.kp j (λx=>x));have P:=aa (N.out.trans j);have Q:=aa (G4 b b2 c H);clear hc O p r j L M N aP;go_upto_region 2 with(refine ua rfl (.tmp 7) (.tmp 8) rfl (Q.out _) rfl rfl ?_)
 have f:Kp ae i (((i.alloc (.cells (vS b b2++vS c H).toArray 68)).alloc (.cells Hh 74)).alloc (.cells #[.slice (some ⟨i.heap.size,0,none⟩) 2 2,.slice (some ⟨i.heap.size+1,0,none⟩) 2 2,.int .i64 2,.int .i64 2] 25)):=(((Kp.refl ae i).alloc _).alloc _).alloc _;have R:=((ag.new i (vS b b2++vS c H) 68).alloc (.cells Hh 74)).alloc (.cells #[.slice (some ⟨i.heap.size,0,none⟩) 2 2,.slice (some ⟨i.heap.size+1,0,none⟩) 2 2,.int .i64 2,.int .i64 2] 25);have z:=(ag.new (i.alloc (.cells (vS b b2++vS c H).toArray 68)) Hf 74).alloc (.cells #[.slice (some ⟨i.heap.size,0,none⟩) 2 2,.slice (some ⟨i.heap.size+1,0,none⟩) 2 2,.int .i64 2,.int .i64 2] 25);rw[HB]at z
 have S:=E1 _ b b2 c H _ _ (u.out.kp f (λx=>x)) (y.out.kp f (λx=>x)) (s.out.kp f (λx=>x)) (t.out.kp f (λx=>x)) R z;have T:=aa S;have U:=aa (P.out.trans f);have V:=aa (u.out.kp f (λx=>x));have X:=aa (y.out.kp f (λx=>x));have Y:=aa (s.out.kp f (λx=>x));have Z:=aa (t.out.kp f (λx=>x));clear f R z S u y s t P Q aQ;go_wp2_with fail;refine(T.out).mono ?_;rintro e w4 ⟨pv,rv,rfl,ac,ad,h⟩;have af:=GF w4 b b2 c H (V.out.kp h (λx=>x)) (X.out.kp h (λx=>x)) (Y.out.kp h (λx=>x)) (Z.out.kp h (λx=>x)) pv rv ac ad;have ah:=aa af;have A:=aa (U.out.trans h);clear ac ad h af T V X Y Z U;go_wp2_with fail;refine(ah.out).mono ?_;rintro e w5 ⟨d,l0,l1,rfl,k,ai,hr,I,aj,ak,al,aR,an⟩;have aq:=aa k;have ar:=aa ai;have au:=aa hr;have av:=aa I;have aw:=aa aj;have ax:=aa ak;have B:=aa al;have ay:=aa (A.out.trans an);have l:Hid (w.heap.size<=d.d_):=aa (by have:=A.out.size;have:=k.lo;have:=k.lh;omega);obtain⟨db,C⟩:∃db,d.db=db:=⟨_,rfl⟩
 have m:=aa C;rw[C];have az:=aa (λW=>CJ W);clear k ai hr I aj ak al aR an C ah A;go_wp2_with fail;refine(az.out _).mono ?_;rintro e w6 ⟨rfl,D⟩;have E:=G6 (aq.out.old D) ar.out au.out aw.out (HC (λa=>a.2.1) B.out);rw[m.out]at E
 have aA:=aa E;have aB:=aa (ay.out.trans D);clear D E az aq ay;go_wp2_with fail;refine(aA.out).mono ?_;rintro e w7 ⟨rfl,n,aD⟩;have F:Hid (Kp ae w w7):=aa (aB.out.then aD (λx hx e=>by have:=l.out;have e2:d.d_<=x:=e;omega));have aE:dH w7:=aO.out.kp F.out (λx=>x);have aF:0<d.d_:=HP (oC aO.out) l.out;have aG:=E2 (d:= {d with ls:=[l0,{l1 with q:=[tx hn]}]}) (by rw[m.out];exact n) av.out rfl ax.out (by have e:=B.out;simp only[aC,Prod.mk.injEq]at e ⊢;exact⟨e.1,trivial,e.2.2⟩) aE aF;have o:Calls Tryz.prog 13 #[.pointer (some ⟨db,0,none⟩)] w7 λe w'=>∃v,e=.returned v/\Sl w' v 1 2 [.int .i64 1,.string (tx AA)]/\Kp (λx=>d.d_<=x) w7 w':=by rw[<-m.out];exact aG
 have aH:=aa o;clear n aD aE aF aG o aA aB ar au av aw ax B m;go_wp2_with fail;refine(aH.out).mono ?_;rintro e w8 ⟨v,rfl,aI,aJ⟩;have G:Hid (Kp ae w w8):=aa (F.out.then aJ (λx hx e=>by have:=l.out;have e2:d.d_<=x:=e;omega));obtain⟨ao,cap,rfl,aK⟩:=aI.is;obtain⟨g,off,aS,aL⟩:=aK 0 (.int .i64 1) rfl;subst aS;have aM:=aa (CE w8 (aO.out.kp G.out (λx=>x)));have aU:w8.cell? ⟨g,off,none⟩=some (.int .i64 1):=by simpa using aL
 clear aI aK aL aJ F aH aO l;go_wp2_with fail;refine(aM.out).mono ?_;rintro e w9 ⟨rfl,aN⟩;have aT:=aa (G.out.trans aN);clear aN aM G;go_wp2_with fail;go_ret;exact⟨rfl,aT.out⟩
end
end Go.Proofs.YtincjochpkdnfaaGreatDoor
