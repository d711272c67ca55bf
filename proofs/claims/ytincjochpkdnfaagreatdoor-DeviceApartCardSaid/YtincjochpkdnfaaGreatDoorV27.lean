/- A device's configuration; Check (layer 37). -/
import Derived.Test.YtincjochpkdnfaaGreatDoorV22
import Derived.Test.YtincjochpkdnfaaGreatDoorV23
set_option linter.all false
set_option maxHeartbeats 4000000
set_option maxRecDepth 100000
namespace Go.Proofs.YtincjochpkdnfaaGreatDoor
section
open Go Go.RowKit Go.Shelf
structure fi where
 pc:jC
 v:Value
 u:Value
def bE(q:fi):List Value:=cx q.pc q.v q.u
def iX(q:fi):(bE q).length=16:=rfl
structure sv (w:World) (l:List fi):Prop where
 ok:∀q∈l,q.pc.Ok/\q.pc.Good
 mem:∀q∈l,Sl w q.v q.pc.c.av.length 5 (q.pc.c.av.flatMap cv)/\Sl w q.u q.pc.rl.length 7 (q.pc.rl.flatMap cR)
def sv.old{w w':World}{l:List fi}(h:sv w l)(k:Kp ae w w'):sv w' l:=⟨h.ok,λq a=>⟨(h.mem q a).1.old k,(h.mem q a).2.old k⟩⟩
def qd:fi:=⟨⟨⟨0,0,0,0,0,0,0,0,0,0,[]⟩,[],0,0,0,0⟩,.slice none 0 0,.slice none 0 0⟩
def kO:(Tryz.prog.info? 82).map (·.size)=some 16:=by kernel_rfl
def kP(q:fi)(a:q.v.oneCell'=true)(b:q.u.oneCell'=true):(bE q).all (·.oneCell')=true:=by
 obtain⟨⟨⟨rk,bk,lv,qu,c,bt,sh,mt,rt,d,fl⟩,rl,ax,bD,aJ,y⟩,v,u⟩:=q;simp only[bE,cx,er,IT,Im,JQ,List.all_nil,Bool.and_true,a,b];rfl
def Sl.one{w:World}{v:Value}{n k:Nat}{l:List Value}(h:Sl w v n k l):v.oneCell'=true:=by obtain⟨a,cap,rfl,_⟩:=h.is;rfl
def ag.range{W:World}{b:Nat}{cs:List Value}{t:TypeId}(h:ag W b cs t):W.rangeAt b 0 cs:=λj v a=>by rw[HR];exact h.cell j a
structure mD (w:World) (l:List fi):Prop where
 ok:∀q∈l,q.pc.Ok
 mem:∀q∈l,Sl w q.v q.pc.c.av.length 5 (q.pc.c.av.flatMap cv)/\Sl w q.u q.pc.rl.length 7 (q.pc.rl.flatMap cR)
def mD.old{w w':World}{l:List fi}(h:mD w l)(k:Kp ae w w'):mD w' l:=⟨h.ok,λq a=>⟨(h.mem q a).1.old k,(h.mem q a).2.old k⟩⟩
def jE:List fi->Int
 | []=>0
 |p::r=>if fU p.pc=0 then jE r else fU p.pc
def Aa{l:List fi}{j:Nat}(a:j<l.length)(hp:jE l=jE (l.drop j))(h:¬fU l[j].pc=0):jE l=fU l[j].pc:=by
 rw[hp,Ii a];unfold jE;rw[Hk h]
def x8{l:List fi}{j:Nat}(a:j<l.length)(hp:jE l=jE (l.drop j))(h:fU l[j].pc=0):jE l=jE (l.drop (j+1)):=by
 rw[hp,Ii a]
 conv=>lhs;unfold jE
 rw[Hl h]
def rh:∀(l:List fi),jE l=0->∀q∈l,fU q.pc=0
 | [],_,q,a=>by cases a
 |p::r,h,q,a=>by
  unfold jE at h;by_cases hp:fU p.pc=0
  ·rw[Hl hp]at h
   rcases Ho.1 a with rfl|a
   ·exact hp
   ·exact rh r h q a
  ·rw[Hk hp]at h;exact absurd h hp
def nk(a:List fi)(b:List bX)(room batch:Int):Int:=
 if a.length=0\/8<a.length then 29 else if jE a≠0 then jE a else if room<1\/4096<room then 25 else if batch<1\/64<batch then 6 else fx a.length [] b
structure Ci (ps:List fi) (rts:List bX) (room batch:Int):Prop where
 n8:1<=ps.length/\ps.length<=8
 fF:∀q∈ps,q.pc.Good
 rm:1<=room/\room<=4096
 bt:1<=batch/\batch<=64
 x9:fx ps.length [] rts=0
def nl{b:List fi}{a:List bX}{room batch:Int}(h:nk b a room batch=0):Ci b a room batch:=by
 unfold nk at h;split at h
 ·contradiction
 ·rename_i e;split at h
  ·contradiction
  ·rename_i c;split at h
   ·contradiction
   ·rename_i f;split at h
    ·contradiction
    ·rename_i g;exact⟨by omega,λq d=>nW (rh b (Decidable.byContradiction c) q d),by omega,by omega,h⟩
def tT(a:List fi)(b:List bX)(room batch:Int)(w:World)(hp:mD w a)(ho:∀r∈b,r.Ok)(hlen:b.length<=4096)(pv rv:Value)(K:Sl w pv a.length 16 (a.flatMap bE))(L:Sl w rv b.length 3 (b.flatMap fw)):
    Calls Tryz.prog 20 #[.agg #[pv,rv,.int .i64 room,.int .i64 batch]] w λe w'=>e=.returned (.int .i64 (nk a b room batch))/\Kp ae w w':=by
 obtain⟨ap,cp,rfl⟩:∃ap cp,pv=.slice ap a.length cp:=by obtain⟨ao,cap,rfl,_⟩:=K.is;exact⟨_,_,rfl⟩
 have V:=aa K;have M:=aa hp;have N:=aa (λW (k:Kp ae w W)=>tR b a.length room batch ho hlen ap cp rv W (L.old k));obtain⟨X,Y,rfl⟩:∃X Y,rv=.slice X b.length Y:=by obtain⟨ao,cap,rfl,_⟩:=L.is;exact⟨_,_,rfl⟩
 have Z:=aa (ag.new w [.slice ap a.length cp,.slice X b.length Y,.int .i64 room,.int .i64 batch] 36);have C:=aa ((Kp.refl ae w).alloc (.cells #[.slice ap a.length cp,.slice X b.length Y,.int .i64 room,.int .i64 batch] 36));have ac:Hid (nk a b room batch=if a.length=0\/8<a.length then 29 else if jE a≠0 then jE a else if room<1\/4096<room then 25 else if batch<1\/64<batch then 6 else fx a.length [] b):=aa rfl;obtain⟨E,hE⟩:∃E,nk a b room batch=E:=⟨_,rfl⟩
 rw[hE]at ac ⊢
 clear K L hp ho hlen hE;refine al ?_;intro PP B;by_cases hn:a.length=0\/8<a.length
 ·have ad:E=29:=ac.out.trans (Hl hn);have c:Hid (∀W,Kp ae w W->PP (.returned (.int .i64 29)) W):=aa (λW k=>B.out _ _ ⟨by rw[ad],k⟩);have o:(a.length:Int)=0\/¬(a.length:Int)=0/\(8:Int)<a.length:=by omega
  clear ac hn ad B N V M;rcases o with i1|⟨i1,i2⟩
  ·have i0:a=[]:=IA (by omega);subst i0;clear i1;go_enter Tryz.func20,Tryz.ntmps20;go_wp2_with fail;exact c.out _ C.out
  ·have i0:¬a=[]:=by rintro rfl;simp at i1
   go_enter Tryz.func20,Tryz.ntmps20;go_wp2_with fail;exact c.out _ C.out
 have D:=aa (ac.out.trans (Hk hn));have i0:¬a=[]:=by rintro rfl;simp at hn
 have i1:¬(a.length:Int)=0:=by omega
 have i2:¬(8:Int)<a.length:=by omega
 clear ac hn;go_enter Tryz.func20,Tryz.ntmps20;go_wp2_with fail;go_loopw [21] (λi0 wr=>∃j:Nat,i0=.int .i64 j/\j<=a.length/\Hid (Kp ae w wr)/\Hid (ag wr w.heap.size [.slice ap a.length cp,.slice X b.length Y,.int .i64 room,.int .i64 batch] 36)/\Hid (jE a=jE (a.drop j))) (λi0 _=>a.length-(intOf i0).toNat)
 case atStart=>exact⟨0,rfl,Hv _,C,Z,aa rfl⟩
 case round=>
  clear C Z;obtain⟨j,rfl,hj,J,F,p⟩:=hrel;obtain⟨m,aD⟩:∃m:World,m=wr:=⟨_,rfl⟩
  subst aD;by_cases G:j<a.length
  ·obtain⟨g,off,aI,e1,hc⟩:=(V.out.old J.out).at iX (by decide) j G;injection e1 with e1 _ e3;subst e1 e3;have aE:(j:Int)<a.length:=by omega
   have d:=Ht G;have s:=aa (λh=>Aa G p.out h);have t:=aa (λh=>x8 G p.out h);obtain⟨q,af⟩:∃q,a[j]=q:=⟨_,rfl⟩
   rw[af]at hc d s t
   have ah:=M.out.ok q d;have y:=(M.out.old J.out).mem q d;have O:=aa (λW (k:Kp ae m W)=>B8 q.pc ah q.v q.u W (y.1.old k) (y.2.old k));have ak:=aa (kP q y.1.one y.2.one);have an:Hid (m.rangeAt g (off+j*16) (bE q)):=aa hc;obtain⟨pe,f⟩:∃pe,fU q.pc=pe:=⟨_,rfl⟩
   rw[f]at O s t
   clear d af ah y hc f p;have aJ:=aa (ag.new m (bE qd) 82);have P:=aa ((Kp.refl ae m).alloc (.cells (bE qd).toArray 82));have au:=aa (F.out.kp P.out (λx=>x));have av:w.heap.size≠m.heap.size:=by have:=F.out.lt;omega
   have hle:w.heap.size<=m.heap.size:=by have:=F.out.lt;omega
   clear F
   go_wp2_with(first
    |(refine wpList_load_mid rfl 82 (.tmp 23) rfl g (off+j*16) rfl (bE q) _ an.out Tryz.underlying82 rfl kO ?_)
    |(refine aV rfl 82 (.tmp 4) (.tmp 24) rfl aJ.out (bE q) rfl rfl rfl kO ak.out ?_;intro W4 aw Q;have ax:=aa aw;have ay:=aa (au.out.kp Q av);have S:Hid (Kp ae m W4):=aa (P.out.then Q (λi h1 h2=>by omega));clear aw Q aJ P au an)
    |(refine wpList_load_mid rfl 82 (.tmp 4) rfl m.heap.size 0 rfl (bE q) _ ax.out.range Tryz.underlying82 rfl kO ?_))
   refine(O.out _ S.out).mono ?_;rintro e w5 ⟨rfl,l⟩;have az:Hid (Kp ae w w5):=aa ((J.out.trans S.out).trans l);have aF:=aa (ay.out.kp l (λx=>x));clear l ay ax S J O av hle ak;by_cases U:pe=0
   ·subst U;have aG:=aa (t.out rfl);clear s t;go_wp2_with fail;go_roundw
    case rel=>exact⟨j+1,by go_num,by omega,az,aF,aG⟩
    case measure=>simp[intOf];omega
   ·have f:=s.out U;have c:Hid (PP (.returned (.int .i64 pe)) w5):=aa (B.out _ _ ⟨by rw[D.out,Hl (by rw[f];exact U),f],az.out⟩);clear s t f D B;go_wp2_with fail;exact c.out
  ·have aH:j=a.length:=by omega
   have aE:¬(j:Int)<a.length:=by omega
   have aA:jE a=0:=by rw[p.out,aH,List.drop_length];rfl
   have H:=aa (D.out.trans (Hk (by rw[aA];decide)));have d2:=F.out.aq;have d3:=F.out.aK;have d0:=F.out.ai;have d1:=F.out.aj;clear F p aA D;by_cases hr:room<1\/4096<room
   ·have aB:E=25:=H.out.trans (Hl hr);have c:Hid (PP (.returned (.int .i64 25)) m):=aa (B.out _ _ ⟨by rw[aB],J.out⟩);have o:room<1\/¬room<1/\4096<room:=by omega
    clear aB H hr B;rcases o with g1|⟨g1,g2⟩;all_goals
     go_wp2_with fail;exact c.out
   have I:=aa (H.out.trans (Hk hr));have i3:¬room<1:=by omega
   have i4:¬4096<room:=by omega
   clear H hr;by_cases hb:batch<1\/64<batch
   ·have h6:E=6:=I.out.trans (Hl hb);have c:Hid (PP (.returned (.int .i64 6)) m):=aa (B.out _ _ ⟨by rw[h6],J.out⟩);have o:batch<1\/¬batch<1/\64<batch:=by omega
    clear h6 I hb B;rcases o with g1|⟨g1,g2⟩;all_goals
     go_wp2_with fail;exact c.out
   have aC:=aa (I.out.trans (Hk hb));have i5:¬batch<1:=by omega
   have i6:¬64<batch:=by omega
   clear I hb;go_wp2_with fail;refine(N.out _ J.out).mono ?_;rintro e w5 ⟨z,l⟩;have A:=aa (B.out (.returned (.int .i64 E)) _ ⟨rfl,J.out.trans l⟩);rw[aC.out]at A
   obtain⟨R,hR⟩:∃R,fx a.length [] b=R:=⟨_,rfl⟩
   rw[hR]at A z
   clear l B aC hR N;rcases z with⟨-,rfl⟩|⟨rfl,-,tb,T,n,rfl,-,-⟩;all_goals
    go_wp2_with fail;exact A.out
end
section
open Go Go.RowKit Go.Shelf Go.ChangeShapes Go.WideShapes Go.ChangeAt Go.Deep
instance:Inhabited fi:=⟨qd⟩
instance:Inhabited bX:=⟨⟨0,0,0⟩⟩
def EB:Tryz.prog.cellsOf 72=2:=by kernel_rfl
def qe:Tryz.prog.cellsOf 3=1:=by kernel_rfl
def Gf:Tryz.prog.cellsOf 108=7:=by kernel_rfl
def Gg:Tryz.prog.cellsOf 106=5:=by kernel_rfl
def Gh:Tryz.prog.cellsOf 63=1:=by kernel_rfl
def Gi:Tryz.prog.cellsOf 66=1:=by kernel_rfl
def Gj:Tryz.prog.cellsOf 65=11:=by kernel_rfl
def Da:Tryz.prog.cellsOf 68=16:=by kernel_rfl
def Db:Tryz.prog.cellsOf 74=3:=by kernel_rfl
def Dc:Tryz.prog.cellsOf 25=4:=by kernel_rfl
def Gk:Tryz.prog.cellsOf 22=1:=by kernel_rfl
def Gl:Tryz.prog.cellsOf 23=1:=by kernel_rfl
def bI{i:Int}(h:(Lit.int .i64 i).wf=true): -9223372036854775808<=i/\i<=9223372036854775807:=by
 simp[Lit.wf,IntKind.min,IntKind.max,IntKind.signed,IntKind.bits]at h
 omega
section
variable {H:Type} {enc:TypeId×Value->H} {w:World} {base:Nat} {spare:Nat->Bool} {held:Bool}
def tU{cs:List Value}{o n k:Nat}{v:Value}(h:((cs.drop o).take n)[k]? =some v):cs[o+k]? =some v:=by
 rw[JK]at h
 split at h
 ·rwa [Ke]at h
 ·cases h
def sw{m:Nat}{o:Nat}{cs:List Value}{y:DataW H×List MemPlace}(h:DataW.trod enc Tryz.prog w base spare held m 72 ((cs.drop o).take 2)=some y):∃p:Nat×Int,qA p/\cs[o]? =some (.int .u32 p.1)/\cs[o+1]? =some (.int .i64 p.2):=by
 obtain⟨xs,m',_,_,f,hlen,hf⟩:=Jv Tryz.underlying72 h;have g0:DataW.trod enc Tryz.prog w base spare held m' 40 ((((cs.drop o).take 2).drop 0).take (Tryz.prog.cellsOf 40))=xs[0]? :=hf 0 _ rfl;have g1:DataW.trod enc Tryz.prog w base spare held m' 3 ((((cs.drop o).take 2).drop 1).take (Tryz.prog.cellsOf 3))=xs[1]? :=hf 1 _ rfl;have b:xs.length=2:=hlen;obtain⟨g,c⟩:=cJ b (show 0<2 by omega);obtain⟨i,d⟩:=cJ b (show 1<2 by omega);rw[tN,c]at g0
 rw[qe,d]at g1
 obtain⟨i0,a0,e⟩:=e6 Tryz.underlying40 g0;obtain⟨i1,a1,b1⟩:=e6 Tryz.underlying3 g1;have j:=zY e;obtain⟨a,rfl⟩:∃a:Nat,i0=a:=⟨i0.toNat,by omega⟩
 exact⟨(a,i1),⟨by show a<_;omega,bI b1⟩,tU a0,tU a1⟩
def x_(n:Nat)(cs:List Value)(x:DataW H×List MemPlace)(h:DataW.trod enc Tryz.prog w base spare held n 108 cs=some x):∃a:b5,a.Ok/\cs=cR a:=by
 obtain⟨xs,m,_,_,c,hlen,hf⟩:=Jv Tryz.underlying108 h;rw[Gf]at c
 have g0:DataW.trod enc Tryz.prog w base spare held m 72 ((cs.drop 0).take (Tryz.prog.cellsOf 72))=xs[0]? :=hf 0 _ rfl;have g1:DataW.trod enc Tryz.prog w base spare held m 72 ((cs.drop 2).take (Tryz.prog.cellsOf 72))=xs[1]? :=hf 1 _ rfl;have g2:DataW.trod enc Tryz.prog w base spare held m 39 ((cs.drop 4).take (Tryz.prog.cellsOf 39))=xs[2]? :=hf 2 _ rfl;have g3:DataW.trod enc Tryz.prog w base spare held m 39 ((cs.drop 5).take (Tryz.prog.cellsOf 39))=xs[3]? :=hf 3 _ rfl;have g4:DataW.trod enc Tryz.prog w base spare held m 40 ((cs.drop 6).take (Tryz.prog.cellsOf 40))=xs[4]? :=hf 4 _ rfl;have b:xs.length=5:=hlen;obtain⟨q,f⟩:=cJ b (show 0<5 by omega);obtain⟨r,g⟩:=cJ b (show 1<5 by omega);obtain⟨t,i⟩:=cJ b (show 2<5 by omega);obtain⟨u,j⟩:=cJ b (show 3<5 by omega);obtain⟨v,k⟩:=cJ b (show 4<5 by omega);rw[EB,f]at g0
 rw[EB,g]at g1
 rw[tO,i]at g2
 rw[tO,j]at g3
 rw[tN,k]at g4
 obtain⟨s,l,e,s1⟩:=sw g0;obtain⟨d,hd,d0,d1⟩:=sw g1;obtain⟨i2,a2,o⟩:=e6 Tryz.underlying39 g2;obtain⟨i3,a3,w3⟩:=e6 Tryz.underlying39 g3;obtain⟨i4,a4,p⟩:=e6 Tryz.underlying40 g4;have y:=wQ o;have z:=wQ w3;have A:=zY p;obtain⟨lo,rfl⟩:∃a:Nat,i2=a:=⟨i2.toNat,by omega⟩
 obtain⟨hi,rfl⟩:∃a:Nat,i3=a:=⟨i3.toNat,by omega⟩
 obtain⟨fl,rfl⟩:∃a:Nat,i4=a:=⟨i4.toNat,by omega⟩
 refine⟨⟨s,d,lo,hi,fl⟩,⟨l,hd,by show lo<_;omega,by show hi<_;omega,by show fl<_;omega⟩,?_⟩;match cs,c with
 | [c0,c1,B,C,D,E,F],_=>
  simp at e s1 d0 d1 a2 a3 a4;subst e s1 d0 d1 a2 a3 a4;rfl
def Cj(n:Nat)(cs:List Value)(x:DataW H×List MemPlace)(h:DataW.trod enc Tryz.prog w base spare held n 106 cs=some x):∃a:dF,a.ok/\cs=cv a:=by
 obtain⟨hlen,hf⟩:=ho Tryz.underlying106 Gg (by decide) (by intro f hf;simp at hf;rcases hf with rfl|rfl|rfl|rfl|rfl;(exact tN);(exact jN);(exact jN);(exact jN);exact jN) h;match cs,hlen with
 | [c0,c1,l,o,p],_=>
  obtain⟨A,B,q⟩:=hf 0 _ c0 rfl rfl;obtain⟨n1,C,r⟩:=hf 1 _ c1 rfl rfl;obtain⟨n2,D,s⟩:=hf 2 _ l rfl rfl;obtain⟨n3,E,t⟩:=hf 3 _ o rfl rfl;obtain⟨n4,F,u⟩:=hf 4 _ p rfl rfl;obtain⟨i0,b,_,w0⟩:=HU Tryz.underlying40 q;obtain⟨i1,c,_,w1⟩:=HU Tryz.underlying38 r;obtain⟨i2,d,_,v⟩:=HU Tryz.underlying38 s;obtain⟨i3,e,_,w3⟩:=HU Tryz.underlying38 t;obtain⟨i4,j,_,y⟩:=HU Tryz.underlying38 u;simp at b c d e j;subst b c d e j;have z0:=zY w0;have G:=mA w1;have z2:=mA v;have z3:=mA w3;have z4:=mA y;obtain⟨f,rfl⟩:∃z:Nat,i0=z:=⟨i0.toNat,by omega⟩
  obtain⟨g,rfl⟩:∃z:Nat,i1=z:=⟨i1.toNat,by omega⟩
  obtain⟨i,rfl⟩:∃z:Nat,i2=z:=⟨i2.toNat,by omega⟩
  obtain⟨m,rfl⟩:∃z:Nat,i3=z:=⟨i3.toNat,by omega⟩
  obtain⟨k,rfl⟩:∃z:Nat,i4=z:=⟨i4.toNat,by omega⟩
  exact⟨⟨f,g,i,m,k⟩,⟨by show f<_;omega,by show g<_;omega,by show i<_;omega,by show m<_;omega,by show k<_;omega⟩,rfl⟩
def Ck(n:Nat)(cs:List Value)(x:DataW H×List MemPlace)(h:DataW.trod enc Tryz.prog w base spare held n 65 cs=some x):∃(c:ey) (u:Value),c.ok/\cs=er c u/\Sl w u c.av.length 5 (c.av.flatMap cv):=by
 obtain⟨hlen,a⟩:=ho Tryz.underlying65 Gj (by decide) (by intro f hf;simp at hf;rcases hf with rfl|rfl|rfl|rfl|rfl|rfl|rfl|rfl|rfl|rfl|rfl;(exact qe);(exact qe);(exact qe);(exact qe);(exact qe);(exact jN);(exact qe);(exact jN);(exact jN);(exact jN);exact Gh) h;match cs,hlen with
 | [c0,c1,v,y,A,B,C,D,E,F,b],_=>
 obtain⟨Z,y0,G⟩:=a 0 _ c0 rfl rfl;obtain⟨n1,y1,I⟩:=a 1 _ c1 rfl rfl;obtain⟨n2,y2,J⟩:=a 2 _ v rfl rfl;obtain⟨n3,y3,K⟩:=a 3 _ y rfl rfl;obtain⟨n4,y4,L⟩:=a 4 _ A rfl rfl;obtain⟨n5,y5,M⟩:=a 5 _ B rfl rfl;obtain⟨n6,y6,N⟩:=a 6 _ C rfl rfl;obtain⟨n7,y7,O⟩:=a 7 _ D rfl rfl;obtain⟨n8,y8,P⟩:=a 8 _ E rfl rfl;obtain⟨n9,y9,Q⟩:=a 9 _ F rfl rfl;obtain⟨R,S,d⟩:=a 10 _ b rfl rfl;obtain⟨i0,i,_,w0⟩:=HU Tryz.underlying3 G;obtain⟨i1,j,_,w1⟩:=HU Tryz.underlying3 I;obtain⟨i2,k,_,T⟩:=HU Tryz.underlying3 J;obtain⟨i3,m,_,w3⟩:=HU Tryz.underlying3 K;obtain⟨i4,o,_,U⟩:=HU Tryz.underlying3 L;obtain⟨i5,p,_,V⟩:=HU Tryz.underlying38 M;obtain⟨i6,q,_,W⟩:=HU Tryz.underlying3 N;obtain⟨i7,r,_,w7⟩:=HU Tryz.underlying38 O;obtain⟨i8,s,_,X⟩:=HU Tryz.underlying38 P;obtain⟨i9,t,_,Y⟩:=HU Tryz.underlying38 Q;obtain⟨u,l,hu,e,g⟩:=gn Tryz.underlying63 Gg (by decide) cv dF.ok fo Cj d;simp at i j k m o p q r s t hu;subst i j k m o p q r s t hu;have z5:=mA V;have z7:=mA w7;have z8:=mA X;have z9:=mA Y;obtain⟨m5,rfl⟩:∃z:Nat,i5=z:=⟨i5.toNat,by omega⟩
 obtain⟨m7,rfl⟩:∃z:Nat,i7=z:=⟨i7.toNat,by omega⟩
 obtain⟨m8,rfl⟩:∃z:Nat,i8=z:=⟨i8.toNat,by omega⟩
 obtain⟨m9,rfl⟩:∃z:Nat,i9=z:=⟨i9.toNat,by omega⟩
 refine⟨⟨i0,i1,i2,i3,i4,m5,i6,m7,m8,m9,l⟩,_,⟨bI w0,bI w1,bI T,bI w3,bI U,?_,bI W,?_,?_,?_,e⟩,rfl,g⟩
 ·show m5<hO;unfold hO;omega
 ·show m7<hO;unfold hO;omega
 ·show m8<hO;unfold hO;omega
 ·show m9<hO;unfold hO;omega
def Dd(w:World)(q:fi):Prop:=q.pc.Ok/\Sl w q.v q.pc.c.av.length 5 (q.pc.c.av.flatMap cv)/\Sl w q.u q.pc.rl.length 7 (q.pc.rl.flatMap cR)
def Cl(n:Nat)(cs:List Value)(x:DataW H×List MemPlace)(h:DataW.trod enc Tryz.prog w base spare held n 68 cs=some x):∃q:fi,Dd w q/\cs=bE q:=by
 obtain⟨xs,m,_,_,e,hlen,hf⟩:=Jv Tryz.underlying68 h;rw[Da]at e
 have g0:DataW.trod enc Tryz.prog w base spare held m 65 ((cs.drop 0).take (Tryz.prog.cellsOf 65))=xs[0]? :=hf 0 _ rfl;have g1:DataW.trod enc Tryz.prog w base spare held m 66 ((cs.drop 11).take (Tryz.prog.cellsOf 66))=xs[1]? :=hf 1 _ rfl;have g2:DataW.trod enc Tryz.prog w base spare held m 38 ((cs.drop 12).take (Tryz.prog.cellsOf 38))=xs[2]? :=hf 2 _ rfl;have g3:DataW.trod enc Tryz.prog w base spare held m 38 ((cs.drop 13).take (Tryz.prog.cellsOf 38))=xs[3]? :=hf 3 _ rfl;have g4:DataW.trod enc Tryz.prog w base spare held m 38 ((cs.drop 14).take (Tryz.prog.cellsOf 38))=xs[4]? :=hf 4 _ rfl;have g5:DataW.trod enc Tryz.prog w base spare held m 5 ((cs.drop 15).take (Tryz.prog.cellsOf 5))=xs[5]? :=hf 5 _ rfl;have a:xs.length=6:=hlen;obtain⟨I,f⟩:=cJ a (show 0<6 by omega);obtain⟨J,g⟩:=cJ a (show 1<6 by omega);obtain⟨K,i⟩:=cJ a (show 2<6 by omega);obtain⟨L,j⟩:=cJ a (show 3<6 by omega);obtain⟨M,k⟩:=cJ a (show 4<6 by omega);obtain⟨N,o⟩:=cJ a (show 5<6 by omega);rw[Gj,f]at g0
 rw[Gi,g]at g1
 rw[jN,i]at g2
 rw[jN,j]at g3
 rw[jN,k]at g4
 rw[B9,o]at g5
 obtain⟨c,v,p,r,s⟩:=Ck _ _ _ g0;obtain⟨u,l,hu,b,d⟩:=gn Tryz.underlying66 Gf (by decide) cR b5.Ok eM x_ g1;obtain⟨i2,a2,t⟩:=e6 Tryz.underlying38 g2;obtain⟨i3,a3,w3⟩:=e6 Tryz.underlying38 g3;obtain⟨i4,a4,y⟩:=e6 Tryz.underlying38 g4;obtain⟨i5,a5,A⟩:=e6 Tryz.underlying5 g5;have z2:=mA t;have z3:=mA w3;have z4:=mA y;have z5:=b8 A;have a1:=kj hu;obtain⟨m2,rfl⟩:∃z:Nat,i2=z:=⟨i2.toNat,by omega⟩
 obtain⟨m3,rfl⟩:∃z:Nat,i3=z:=⟨i3.toNat,by omega⟩
 obtain⟨m4,rfl⟩:∃z:Nat,i4=z:=⟨i4.toNat,by omega⟩
 obtain⟨m5,rfl⟩:∃z:Nat,i5=z:=⟨i5.toNat,by omega⟩
 refine⟨⟨⟨c,l,m2,m3,m4,m5⟩,v,u⟩,⟨⟨p,b,by show m2<_;omega,by show m3<_;omega,by show m4<_;omega,by show m5<_;omega⟩,s,d⟩,?_⟩;show cs=er c v++[u,.int .u64 m2,.int .u64 m3,.int .u64 m4,.int .u8 m5];rw[<-r];match cs,e with
 | [c0,c1,O,P,Q,R,S,T,U,V,B,C,D,E,F,G],_=>
  simp at a1 a2 a3 a4 a5;subst a1 a2 a3 a4 a5;rfl
def Cm(n:Nat)(cs:List Value)(x:DataW H×List MemPlace)(h:DataW.trod enc Tryz.prog w base spare held n 74 cs=some x):∃r:bX,r.Ok/\cs=fw r:=by
 obtain⟨xs,m,_,_,b,hlen,hf⟩:=Jv Tryz.underlying74 h;rw[Db]at b
 have g0:DataW.trod enc Tryz.prog w base spare held m 72 ((cs.drop 0).take (Tryz.prog.cellsOf 72))=xs[0]? :=hf 0 _ rfl;have g1:DataW.trod enc Tryz.prog w base spare held m 3 ((cs.drop 2).take (Tryz.prog.cellsOf 3))=xs[1]? :=hf 1 _ rfl;have a:xs.length=2:=hlen;obtain⟨f,d⟩:=cJ a (show 0<2 by omega);obtain⟨g,e⟩:=cJ a (show 1<2 by omega);rw[EB,d]at g0
 rw[qe,e]at g1
 obtain⟨p,hp,c,s1⟩:=sw g0;obtain⟨i,a1,w1⟩:=e6 Tryz.underlying3 g1;refine⟨⟨p.1,p.2,i⟩,⟨hp.1,hp.2,bI w1⟩,?_⟩;match cs,b with
 | [c0,c1,j],_=>
  simp at c s1 a1;subst c s1 a1;rfl
def wA{r:Reach}{u:Nat}{v:Value}{d:DataW H}{x:List MemPlace}(c:Value.okWide Tryz.prog w r u 25 v)
    (h:DataW.Trod enc Tryz.prog w base spare held 25 v d x):∃(l:List fi) (a:List bX) (room batch:Int) (pv m:Value),v=.agg #[pv,m,.int .i64 room,.int .i64 batch]/\mD w l/\(∀r∈a,r.Ok)/\Sl w pv l.length 16 (l.flatMap bE)/\Sl w m a.length 3 (a.flatMap fw):=by
 obtain⟨cs,rfl,hsz⟩:=okWide_struct Tryz.underlying25 c;obtain⟨fuel,hf⟩:=h;obtain⟨hlen,b⟩:=ho Tryz.underlying25 Dc (by decide) (by intro f hf;simp at hf;rcases hf with rfl|rfl|rfl|rfl;(exact Gk);(exact Gl);(exact qe);exact qe) hf;obtain⟨c0,c1,e,g,rfl⟩:∃c0 c1 e g,cs=#[c0,c1,e,g]:=by
  rw[Dc]at hsz
  match cs,hsz with
  |⟨[c0,c1,e,g]⟩,_=>exact⟨c0,c1,e,g,rfl⟩
 obtain⟨C,D,y⟩:=b 0 _ c0 rfl rfl;obtain⟨n1,E,z⟩:=b 1 _ c1 rfl rfl;obtain⟨n2,F,A⟩:=b 2 _ e rfl rfl;obtain⟨n3,G,B⟩:=b 3 _ g rfl rfl;obtain⟨pv,l,hp,i,n⟩:=gn Tryz.underlying22 Da (by decide) bE (Dd w) iX Cl y;obtain⟨m,a,p,j,k⟩:=gn Tryz.underlying23 Db (by decide) fw bX.Ok ni Cm z;obtain⟨i2,s,_,I⟩:=HU Tryz.underlying3 A;obtain⟨i3,t,_,w3⟩:=HU Tryz.underlying3 B;simp at s t hp p;subst s t hp p;exact⟨l,a,i2,i3,_,_,rfl,⟨λq o=>(i q o).1,λq o=>(i q o).2⟩,j,n,k⟩
end
end
end Go.Proofs.YtincjochpkdnfaaGreatDoor
