/- What the functions of package flow compute, at things of kind own: made, home, find. -/
import Derived.Test.YtincjochpkdnfaaGreatDoorV1
import Derived.Test.YtincjochpkdnfaaGreatDoorV2
set_option linter.all false
set_option maxHeartbeats 8000000
set_option maxRecDepth 100000
namespace Go.Proofs.YtincjochpkdnfaaGreatDoor
namespace flowOwn
open Go.RowKit
structure Th where
 p:Int
 b:Nat
 m:Nat
def Bd(x:Th):List Value:=[.int .i64 x.p,.int .u64 x.b,.int .u64 x.m]
abbrev en(x:Th):Value:=.agg #[.int .i64 x.p,.int .u64 x.b,.int .u64 x.m]
def zx:Th:=⟨0,0,0⟩
def c4:Option (Nat×Th)->List Value
 |none=>[.int .u32 0,.bool false,.int .i64 0,.int .u64 0,.int .u64 0]
 |some (id,x)=>[.int .u32 id,.bool true,.int .i64 x.p,.int .u64 x.b,.int .u64 x.m]
def cI(o:Option (Nat×Th)):(c4 o).length=5:=by cases o<;>rfl
structure dW (w:World) (tb sb:Nat) (S:bB Th) (n room:Nat):Prop where
 top:ag w tb [.slice (some ⟨sb,0,none⟩) S.length S.length,.int .i64 n,.int .i64 room] 278
 l7:ag w sb (S.flatMap c4) 280
structure jP (S:bB Th) (n room:Nat):Prop where
 pw:Pw S.length
 inv:gi (aQ S.length) S
 cnt:(bw S).length=n
 load:4*n<=3*S.length
 nr:n<=room
 r1:1<=room
 r2:room<=4096
 ids:∀e∈bw S,e.1<4294967296
 b1:8<=S.length
 b2:S.length<=8192
def dW.kp{S':Nat->Prop}{w w':World}{tb sb:Nat}{S:bB Th}{n room:Nat}(h:dW w tb sb S n room)(K:Kp S' w w')(a:¬S' tb)(b:¬S' sb):dW w' tb sb S n room:=⟨h.top.kp K a,h.l7.kp K b⟩
def dW.old{w w':World}{tb sb:Nat}{S:bB Th}{n room:Nat}(h:dW w tb sb S n room)(K:Kp ae w w'):dW w' tb sb S n room:=h.kp K id id
def dW.cell{w:World}{tb sb:Nat}{S:bB Th}{n room:Nat}(h:dW w tb sb S n room)(i k:Nat){u:Value}(a:k<5)(hu:(c4 (bW S i))[k]? =some u)(hi:i<S.length):w.cell? ⟨sb,i*5+k,none⟩=some u:=by
 refine h.l7.cell _ ?_;rw[flat_get c4 5 cI _ _ _ a,Hn hi];unfold bW at hu;rw[Hx,Hn hi]at hu
 simpa using hu
def rW(w:World)(tb sb:Nat)(S:bB Th)(n room:Nat)(h:dW w tb sb S n room)(b:0<S.length):Calls Tryz.prog 121 #[.pointer (some ⟨tb,0,none⟩)] w λe w'=>e=.returned (.bool true)/\w=w':=by
 have c:=h.top.ai;have a:(0:Int)<S.length:=by omega
 clear h;go_enter Tryz.func121,Tryz.ntmps121;go_wp2;go_ret;exact⟨rfl,rfl⟩
def DJ(w:World)(tb sb:Nat)(S:bB Th)(n room:Nat)(h:dW w tb sb S n room)(hp:Pw S.length)(b:S.length<=8192)(id:Nat)(hid:id<4294967296):Calls Tryz.prog 143 #[.pointer (some ⟨tb,0,none⟩),.int .u32 id] w λe w'=>e=.returned (.int .i64 (aQ S.length id))/\w=w':=by
 have c:=h.top.ai;have d:=hp.pos;have hm:=ur S.length hp id;have a:=aa hm;clear h hm;go_enter Tryz.func143,Tryz.ntmps143;go_wp2;go_ret;exact⟨by rw[<-a.out];rfl,rfl⟩
def DK(w:World)(tb sb:Nat)(S:bB Th)(n room:Nat)(h:dW w tb sb S n room)(hp:Pw S.length)(J:S.length<=8192)(id:Nat)(hid:id<4294967296)(hu:∃i,i<S.length/\bW S i=none):
    Calls Tryz.prog 122 #[.pointer (some ⟨tb,0,none⟩),.int .u32 id] w λe w'=>(∃d,gR (aQ S.length) S id d/\e=.returned (.int .i64 (ad S.length (aQ S.length id) d:Nat)))/\w=w':=by
 have c:=h.top.ai;have K:=hp.pos;have L:=aa h;have M:=aa (DJ w tb sb S n room h hp J id hid);have o:=cQ S.length id K;obtain⟨d0,A,p⟩:∃d0,d0<S.length/\bW S (ad S.length (aQ S.length id) d0)=none:=by
  obtain⟨i,hi,hz⟩:=hu;exact⟨dst S.length (aQ S.length id) i,rL o hi,by rw[rM o hi];exact hz⟩
 obtain⟨N,j⟩:∃N,S.length=N:=⟨_,rfl⟩
 have B:Hid (∀d,d<N->(∀e,e<d->∃k x,bW S (ad N (aQ N id) e)=some (k,x)/\k≠id)->(bW S (ad N (aQ N id) d)=none\/∃x,bW S (ad N (aQ N id) d)=some (id,x))->gR (aQ N) S id d):=by
  subst j;exact λd C D E=>⟨C,D,E⟩
 have r:Hid (∀i k u,k<5->(c4 (bW S i))[k]? =some u->i<N->w.cell? ⟨sb,i*5+k,none⟩=some u):=by
  subst j;exact λi k u C D E=>L.out.cell i k C D E
 rw[j]at c K o A p J hp M ⊢
 have F:=aa (λa ha=>uq N hp a ha);clear h hu j L;generalize aQ N id=hm at*;have hz:=aa p;clear p;go_enter Tryz.func122,Tryz.ntmps122;go_wp2_with fail;refine M.out.mono ?_;rintro e w1 ⟨rfl,rfl⟩;go_wp2_with fail;go_loop [5] (λi0=>∃d:Nat,i0=.int .i64 (ad N hm d:Nat)/\d<=d0/\Hid (∀e,e<d->∃k x,bW S (ad N hm e)=some (k,x)/\k≠id)) (λi0=>N-dst N hm (intOf i0).toNat)
 case atStart=>exact⟨0,by rw[yB o],by omega,λe he=>by omega⟩
 case round=>
  obtain⟨d,rfl,hd,t⟩:=hrel;have b:=fG o (show d<N by omega);have l:=rN o (show d<N by omega);have f:=B.out d (by omega) t.out;obtain⟨q,g⟩:∃q,ad N hm d=q:=⟨_,rfl⟩
  have m:d+1<N->ad N q 1=ad N hm (d+1):=λh=>by rw[<-g];exact Ds o h
  rw[g]at b l
  have P:(q:Int)<N:=by omega
  cases ht:bW S q with
  |none=>
   have c1:=r.out q 1 (.bool false) (by omega) (by rw[ht];rfl) b;have HF:=aa (f (.inl (by rw[g];exact ht)));clear f ht m l t;rw[g];go_wp2_with fail;go_ret;exact⟨⟨d,HF.out,by rw[g];rfl⟩,rfl⟩
  |some ex=>
   obtain⟨k,x⟩:=ex;have c0:=r.out q 0 (.int .u32 k) (by omega) (by rw[ht];rfl) b;have c1:=r.out q 1 (.bool true) (by omega) (by rw[ht];rfl) b;simp only[Ig]at c0;by_cases G:k=id
   ·subst G;have HF:=aa (f (.inr ⟨x,by rw[g];exact ht⟩));clear f ht m l t;rw[g];go_wp2_with fail;go_ret;exact⟨⟨d,HF.out,by rw[g];rfl⟩,rfl⟩
   ·have Q:((k:Int) != (id:Int))=true:=by rw[bne_iff_ne];omega
    have R:d≠d0:=λe=>by have:=hz.out;rw[<-e,g,ht]at this;cases this
    have v:=F.out q b;have T:Hid (∀e,e<d+1->∃k x,bW S (ad N hm e)=some (k,x)/\k≠id):=λe he=>by
     by_cases H:e=d
     ·subst H;exact⟨k,x,by rw[g];exact ht,G⟩
     ·exact t.out e (by omega)
    have y:=m (by omega);have z:=rN o (show d+1<N by omega);clear f ht m t G;rw[y]at v
    rw[g];obtain⟨O,s⟩:∃O,ad N hm (d+1)=O:=⟨_,rfl⟩
    rw[s]at v z
    have I:=aa s;clear s y;go_wp2_with fail;go_round
    case rel=>exact⟨d+1,by rw[I.out],by omega,T.out⟩
    case measure=>simp only[intOf,HZ,z,l];omega
def jP.free{S:bB Th}{n room:Nat}(h:jP S n room):∃i,i<S.length/\bW S i=none:=unused S (by have:=h.cnt;have:=h.load;have:=h.b1;omega)
def hW(S:bB Th)(id d:Nat)(hp:Pw S.length)(a:S.length<=8192)(hid:id<4294967296)(hu:∃i,i<S.length/\bW S i=none)(f:gR (aQ S.length) S id d)(w:World)(tb sb:Nat)(n room:Nat)(h:dW w tb sb S n room):
    Calls Tryz.prog 122 #[.pointer (some ⟨tb,0,none⟩),.int .u32 id] w λe w'=>e=.returned (.int .i64 (ad S.length (aQ S.length id) d:Nat))/\Kp ae w w':=
 (DK w tb sb S n room h hp a id hid hu).mono λe w' ⟨⟨d',b,he⟩,hw⟩=>by
  subst hw;rw[f.unique b];exact⟨he,Kp.refl _ _⟩
def o3:(Tryz.prog.info? 230).map (·.size)=some 3:=by kernel_rfl
def xo(w:World)(tb sb:Nat)(S:bB Th)(n room:Nat)(h:dW w tb sb S n room)(ok:jP S n room)(id:Nat)(hid:id<4294967296)(d:Nat)(f:gR (aQ S.length) S id d)(ht:bW S (ad S.length (aQ S.length id) d)=none):
    Calls Tryz.prog 134 #[.pointer (some ⟨tb,0,none⟩),.int .u32 id] w λe w'=>e=.returned (.tuple #[en zx,.bool false])/\Kp ae w w':=by
 have c:=h.top.ai;have A:=ok.pw.pos;have m:=fG (cQ S.length id A) f.lt;have D:=aa (λW (k:Kp ae w W)=>aF (rW W tb sb S n room (h.old k) A));have B:=aa (λW (k:Kp ae w W)=>hW S id d ok.pw ok.b2 hid ok.free f W tb sb n room (h.old k));have i:=λk u E F=>h.cell (ad S.length (aQ S.length id) d) k (u:=u) E F m;obtain⟨q,v⟩:∃q,ad S.length (aQ S.length id) d=q:=⟨_,rfl⟩
 rw[v]at m B i ht
 have G:(q:Int)<S.length:=by omega
 have H:=aa h;have K:=aa v;clear h f v;rw[ht]at i
 have c1:=i 1 (.bool false) (by omega) rfl;clear i ht;go_enter Tryz.func134,Tryz.ntmps134;go_wp2_with fail;have o:=aa (((ag.new w [.int .i64 0,.int .u64 0,.int .u64 0] 230).alloc (.cells #[.int .i64 0,.int .u64 0,.int .u64 0] 230)));have r:Hid (ag ((w.alloc (.cells #[.int .i64 0,.int .u64 0,.int .u64 0] 230)).alloc (.cells #[.int .i64 0,.int .u64 0,.int .u64 0] 230)) (w.heap.size+1) [.int .i64 0,.int .u64 0,.int .u64 0] 230):=by
  have:=ag.new (w.alloc (.cells #[.int .i64 0,.int .u64 0,.int .u64 0] 230)) [.int .i64 0,.int .u64 0,.int .u64 0] 230;rw[HB]at this
  exact this
 have b:=aa (((Kp.refl ae w).alloc (.cells #[.int .i64 0,.int .u64 0,.int .u64 0] 230)).alloc (.cells #[.int .i64 0,.int .u64 0,.int .u64 0] 230));change Code.wp _ _ _ _ ((w.alloc (.cells #[.int .i64 0,.int .u64 0,.int .u64 0] 230)).alloc (.cells #[.int .i64 0,.int .u64 0,.int .u64 0] 230));generalize (w.alloc (.cells #[.int .i64 0,.int .u64 0,.int .u64 0] 230)).alloc (.cells #[.int .i64 0,.int .u64 0,.int .u64 0] 230)=C at*;have d0:=b.out.cell c (λx=>x);have d1:=b.out.cell c1 (λx=>x);have y:=aa (λW (k:Kp ae C W)=>D.out W (b.out.trans k));have s:=aa (λW (k:Kp ae C W)=>B.out W (b.out.trans k));refine ar 15 (by kernel_rfl) (λ_ _ _ _ _ h=>h) ?_;simp only[aO]
 repeat((first
    |refine ay (by rfl) (by as_aux_lemma=>intro W t;have L:=t.cell d0 (λx=>x);have M:=t.cell d1 (λx=>x);go_simp;exact rfl) ?_
    |refine ah (by rfl) ?_
    |refine aR (by rfl) (by as_aux_lemma=>intro W;go_simp;exact⟨rfl,rfl⟩) (by intro W t;with_reducible first|exact y.out W t|exact s.out W t) ?_);simp only[Act.put,aH])
 intro I a;have z:=aa (b.out.trans a);have g:=aa (o.out.kp a (λx=>x));have l:=aa (r.out.kp a (λx=>x));have d2:=a.cell d0 (λx=>x);have J:=aa (λW (k:Kp ae I W)=>s.out W (a.trans k));clear a d0 d1 o r;have N:=l.out.ai;have O:=l.out.aj;have x2:=l.out.aq;have P:=g.out.ai;have Q:=g.out.aj;have R:=g.out.aq;have T:=λj=>g.out.fz j;go_wp2_with fail;exact cO (by exact rfl) (((g.out.set 0 (.int .i64 0)).set 1 (.int .u64 0)).set 2 (.int .u64 0)) _ Tryz.underlying230 rfl o3 (by exact rfl) ⟨rfl,((z.out.set (p:=⟨w.heap.size,0,none⟩) (.inr (Hm _)) _).set (p:=⟨w.heap.size,1,none⟩) (.inr (Hm _)) _).set (p:=⟨w.heap.size,2,none⟩) (.inr (Hm _)) _⟩
def xp(w:World)(tb sb:Nat)(S:bB Th)(n room:Nat)(h:dW w tb sb S n room)(ok:jP S n room)(id:Nat)(hid:id<4294967296)(d:Nat)(f:gR (aQ S.length) S id d)(x:Th)(ht:bW S (ad S.length (aQ S.length id) d)=some (id,x)):
    Calls Tryz.prog 134 #[.pointer (some ⟨tb,0,none⟩),.int .u32 id] w λe w'=>e=.returned (.tuple #[en x,.bool true])/\Kp ae w w':=by
 have c:=h.top.ai;have F:=ok.pw.pos;have t:=fG (cQ S.length id F) f.lt;have L:=aa (λW (k:Kp ae w W)=>aF (rW W tb sb S n room (h.old k) F));have G:=aa (λW (k:Kp ae w W)=>hW S id d ok.pw ok.b2 hid ok.free f W tb sb n room (h.old k));have g:=λk u M N=>h.cell (ad S.length (aQ S.length id) d) k (u:=u) M N t;obtain⟨q,A⟩:∃q,ad S.length (aQ S.length id) d=q:=⟨_,rfl⟩
 rw[A]at t G g ht
 have O:(q:Int)<S.length:=by omega
 have P:=aa h;have U:=aa A;clear h f A;rw[ht]at g
 have c1:=g 1 (.bool true) (by omega) rfl;have H:=g 2 (.int .i64 x.p) (by omega) rfl;have I:w.cell? ⟨sb,q*5+2+1,none⟩=some (.int .u64 x.b):=g 3 (.int .u64 x.b) (by omega) rfl;have J:w.cell? ⟨sb,q*5+2+1+1,none⟩=some (.int .u64 x.m):=g 4 (.int .u64 x.m) (by omega) rfl;clear g ht;go_enter Tryz.func134,Tryz.ntmps134;go_wp2_with fail;have v:=aa (((ag.new w [.int .i64 0,.int .u64 0,.int .u64 0] 230).alloc (.cells #[.int .i64 0,.int .u64 0,.int .u64 0] 230)));have y:Hid (ag ((w.alloc (.cells #[.int .i64 0,.int .u64 0,.int .u64 0] 230)).alloc (.cells #[.int .i64 0,.int .u64 0,.int .u64 0] 230)) (w.heap.size+1) [.int .i64 0,.int .u64 0,.int .u64 0] 230):=by
  have:=ag.new (w.alloc (.cells #[.int .i64 0,.int .u64 0,.int .u64 0] 230)) [.int .i64 0,.int .u64 0,.int .u64 0] 230;rw[HB]at this
  exact this
 have o:=aa (((Kp.refl ae w).alloc (.cells #[.int .i64 0,.int .u64 0,.int .u64 0] 230)).alloc (.cells #[.int .i64 0,.int .u64 0,.int .u64 0] 230));change Code.wp _ _ _ _ ((w.alloc (.cells #[.int .i64 0,.int .u64 0,.int .u64 0] 230)).alloc (.cells #[.int .i64 0,.int .u64 0,.int .u64 0] 230));generalize (w.alloc (.cells #[.int .i64 0,.int .u64 0,.int .u64 0] 230)).alloc (.cells #[.int .i64 0,.int .u64 0,.int .u64 0] 230)=K at*;have d0:=o.out.cell c (λx=>x);have d1:=o.out.cell c1 (λx=>x);have B:=aa (λW (k:Kp ae K W)=>L.out W (o.out.trans k));have z:=aa (λW (k:Kp ae K W)=>G.out W (o.out.trans k));refine ar 15 (by kernel_rfl) (λ_ _ _ _ _ h=>h) ?_;simp only[aO]
 repeat((first
    |refine ay (by rfl) (by as_aux_lemma=>intro W l;have Q:=l.cell d0 (λx=>x);have V:=l.cell d1 (λx=>x);go_simp;exact rfl) ?_
    |refine ah (by rfl) ?_
    |refine aR (by rfl) (by as_aux_lemma=>intro W;go_simp;exact⟨rfl,rfl⟩) (by intro W l;with_reducible first|exact B.out W l|exact z.out W l) ?_);simp only[Act.put,aH])
 intro R i;have r:=aa (o.out.trans i);have C:=aa (v.out.kp i (λx=>x));have T:=aa (y.out.kp i (λx=>x));have d2:=i.cell d0 (λx=>x);have D:=aa (λW (k:Kp ae R W)=>z.out W (i.trans k));clear i d0 d1 v y;have d3:=r.out.cell H (λx=>x);have d4:=r.out.cell I (λx=>x);have d5:=r.out.cell J (λx=>x);clear c c1 H I J;go_wp2_with fail;refine ar 10 (by kernel_rfl) (λ_ _ _ _ _ h=>h) ?_;simp only[aO]
 repeat((first
    |refine ay (by rfl) (by as_aux_lemma=>intro W l;have Q:=l.cell d2 (λx=>x);have X:=l.cell d3 (λx=>x);have Y:=l.cell d4 (λx=>x);have Z:=l.cell d5 (λx=>x);go_simp;exact rfl) ?_
    |refine ah (by rfl) ?_
    |refine aR (by rfl) (by as_aux_lemma=>intro W;go_simp;exact⟨rfl,rfl⟩) (by intro W l;with_reducible first|exact D.out W l) ?_);simp only[Act.put,aH])
 intro W3 s;have E:=aa (r.out.trans s);have a:=aa (C.out.kp s (λx=>x));clear s d2 d3 d4 d5;have y0:=a.out.ai;have y1:=a.out.aj;have y2:=a.out.aq;have yf:=λj=>a.out.fz j;go_wp2_with fail;exact cO (by exact rfl) (((a.out.set 0 (.int .i64 x.p)).set 1 (.int .u64 x.b)).set 2 (.int .u64 x.m)) _ Tryz.underlying230 rfl o3 (by exact rfl) ⟨rfl,((E.out.set (p:=⟨w.heap.size,0,none⟩) (.inr (Hm _)) _).set (p:=⟨w.heap.size,1,none⟩) (.inr (Hm _)) _).set (p:=⟨w.heap.size,2,none⟩) (.inr (Hm _)) _⟩
def Fx:gL Tryz.prog 276 280 (.agg #[.int .u32 0,.bool false,.int .i64 0,.int .u64 0,.int .u64 0]) 5 32:=⟨Tryz.underlying276,by kernel_rfl,rfl,by decide⟩
def Pw.o4{N:Nat}(h:Pw N)(b:N<=5462):Pw (2*N)/\N<=4096:=by
 obtain⟨k,c,rfl⟩:=h;have a:k<=12:=by
  refine Classical.byContradiction λd=> ?_;have:(2:Nat)^13<=2^k:=ID (by decide) (by omega);omega
 have:(2:Nat)^k<=2^12:=ID (by decide) a;exact⟨⟨k+1,by omega,by rw[Ij,IY]⟩,by omega⟩
structure th (S:bB Th) (w wr:World) (tb sb nb i:Nat) (S2:bB Th) (n room:Nat):Prop where
 mem:dW wr tb nb S2 n room
 old:ag wr sb (S.flatMap c4) 280
 inv:gi (aQ (2*S.length)) S2
 len:S2.length=2*S.length
 br:(bw S2).Perm (bw (S.take i))
 kp:Kp (λb=>b=tb) w wr
 new:w.heap.size<=nb
def th.next{S:bB Th}{w wr w':World}{tb sb nb i:Nat}{S2:bB Th}{n room:Nat}(h:th S w wr tb sb nb i S2 n room)(k:Kp ae wr w'):th S w w' tb sb nb i S2 n room:=
 ⟨h.mem.old k,h.old.kp k id,h.inv,h.len,h.br,h.kp.then k (λ_ _ x=>x.elim),h.new⟩
def DL(w:World)(tb sb:Nat)(S:bB Th)(n room:Nat)(h:dW w tb sb S n room)(ok:jP S n room)(hb:S.length<=5462):
    Calls Tryz.prog 123 #[.pointer (some ⟨tb,0,none⟩)] w λe w'=>e=.returned (.tuple #[])/\∃nb S2,th S w w' tb sb nb S.length S2 n room:=by
 have c:=h.top.ai;have fz:=h.top.fz 0;obtain⟨ao,aD⟩:=Pw.o4 ok.pw hb;have hN:=ok.pw.pos;have K:=ew Fx c4 cI none rfl (2*S.length) (by omega) (by omega) w;have au:sb≠tb:=λe=>by have:=(e3 h.l7 h.top (by decide));exact this e
 have aB:Hid (th S w ((w.alloc (.cells ((List.replicate (2*S.length) (none:Option (Nat×Th))).flatMap c4).toArray 280)).setCell ⟨tb,0,none⟩ (.slice (some ⟨w.heap.size,0,none⟩) (2*S.length) (2*S.length))) tb sb w.heap.size 0 (List.replicate (2*S.length) none) n room):=by
  have t:=h.top.lt;refine⟨⟨?_,?_⟩,?_,gi.nil _ (λid=>cQ _ _ (by omega)),by rw[Ic],by rw[kA,Je];exact List.Perm.refl _,?_,Hm _⟩
  ·have:=(h.top.alloc (.cells ((List.replicate (2*S.length) (none:Option (Nat×Th))).flatMap c4).toArray 280)).set 0 (.slice (some ⟨w.heap.size,0,none⟩) (2*S.length) (2*S.length));rw[Ic];exact this
  ·exact(ag.new w _ _).bJ (a:=⟨tb,0,none⟩) (by show w.heap.size≠tb;omega) _
  ·exact(h.l7.alloc _).bJ (a:=⟨tb,0,none⟩) au _
  ·exact((Kp.refl (λb=>b=tb) w).alloc _).set (p:=⟨tb,0,none⟩) (.inl rfl) _
 have A:((2*S.length:Nat):Int)=2*(S.length:Int):=by omega
 rw[A]at K
 have Q:(Instr.makeSlice 276 (.int .i64 (2*(S.length:Int))) (.int .i64 (2*(S.length:Int)))).run Tryz.prog w=.ok (.slice (some ⟨w.heap.size,0,none⟩) (2*S.length) (2*S.length)) (w.alloc (.cells ((List.replicate (2*S.length) (none:Option (Nat×Th))).flatMap c4).toArray 280)):=K;have c1:=(Kp.refl ae w).alloc (.cells ((List.replicate (2*S.length) (none:Option (Nat×Th))).flatMap c4).toArray 280);have c2:=c1.cell c id;have av:(w.alloc (.cells ((List.replicate (2*S.length) (none:Option (Nat×Th))).flatMap c4).toArray 280)).frozen? ⟨tb,0,none⟩=false:=(h.top.alloc _).fz 0;clear h K A c1;go_enter Tryz.func123,Tryz.ntmps123;go_wp2;clear c c2 fz av Q;go_loopw [18] (λi0 wr=>∃(i nb:Nat) (S2:bB Th),i0=.int .i64 i/\i<=S.length/\Hid (th S w wr tb sb nb i S2 n room)) (λi0 _=>S.length-(intOf i0).toNat)
 case atStart=>exact⟨0,w.heap.size,_,rfl,by omega,aB.out⟩
 case round=>
  obtain⟨i,nb,S2,rfl,hi,hr⟩:=hrel;by_cases t:i<S.length
  ·have aE:(i:Int)<S.length:=by omega
   have G:=aa hr.out;have z:=uu S i t;have g:∀k u,k<5->(c4 (bW S i))[k]? =some u->wr.cell? ⟨sb,i*5+k,none⟩=some u:=λk u hk hu=>by
    refine G.out.old.cell _ ?_;rw[flat_get c4 5 cI _ _ _ hk,Hn t];unfold bW at hu;rw[Hx,Hn t]at hu
    simpa using hu
   clear hr aB;cases ht:bW S i with
   |none=>
    rw[ht]at g z
    have o0:=g 0 _ (by omega) rfl;have o1:=g 1 _ (by omega) rfl;have o2:=g 2 _ (by omega) rfl;have o3:=g 3 _ (by omega) rfl;have aC:=g 4 _ (by omega) rfl;simp only[Ig]at o0;have R:Hid ((bw S2).Perm (bw (S.take (i+1)))):=by show List.Perm _ _;rw[z];simpa using G.out.br
    have B:=(Kp.refl ae wr).alloc (.cells (c4 none).toArray 280);have L:Hid (th S w (wr.alloc (.cells (c4 none).toArray 280)) tb sb nb (i+1) S2 n room):=by
     have:=G.out.next B;exact {this with br:=R.out}
    clear g z ht B;go_wp2_with fail;go_roundw
    case rel=>exact⟨i+1,nb,S2,by go_num,by omega,L.out⟩
    case measure=>simp[intOf];omega
   |some ex=>
    obtain⟨k,x⟩:=ex;rw[ht]at g z
    have o0:=g 0 _ (by omega) rfl;have o1:=g 1 _ (by omega) rfl;have o2:=g 2 _ (by omega) rfl;have o3:=g 3 _ (by omega) rfl;have aC:=g 4 _ (by omega) rfl;simp only[Ig]at o0;have T:k<4294967296:=ok.ids (k,x) ((gw S _).2 ⟨i,t,ht⟩);have U:(bw S2).length<S.length+1:=by
     have M:=G.out.br.length_eq;have V:=w2 (S.take i);rw[HG]at V
     omega
    have N:=G.out.len;have m:∃j,j<S2.length/\bW S2 j=none:=unused S2 (by omega);have C:∀id,aQ S2.length id<S2.length:=λid=>cQ _ _ (by omega);obtain⟨d,f⟩:=gR.there (hm:=aQ S2.length) C k m;have hinv:gi (aQ S2.length) S2:=by rw[N];exact G.out.inv
    have o:bW S2 (ad S2.length (aQ S2.length k) d)=none:=by
     rcases f.fin with M|⟨y,M⟩
     ·exact M
     ·exfalso;have hm:(k,y)∈bw (S.take i):=G.out.br.mem_iff.1 ((gw S2 _).2 ⟨_,fG (C k) f.lt,M⟩);obtain⟨j,hj,ej⟩:=(gw _ _).1 hm;rw[HG]at hj
      have aw:bW S j=some (k,y):=by
       unfold bW at ej ⊢;rw[Hx,JK,Hl (by omega)]at ej
       rw[Hx];exact ej
      have:=ok.inv.one j i k y x (by omega) t aw ht;omega
    have F:=hinv.put f o x;have D:=qt S2 _ (fG (C k) f.lt) o (k,x);have X:=fG (C k) f.lt;have GF:=aa (λW h=>hW S2 k d (by rw[N];exact ao) (by omega) T m f W tb nb n room h);have s:=eD c4 5 cI S2 (ad S2.length (aQ S2.length k) d) (some (k,x)) X;have R:Hid ((bw (S2.set (ad S2.length (aQ S2.length k) d) (some (k,x)))).Perm (bw (S.take (i+1)))):=by
     show List.Perm _ _;rw[z];exact D.trans ((List.Perm.cons _ G.out.br).trans (List.perm_append_singleton _ _).symm)
    have E:=F;rw[N]at E
    have H:=aa E;clear g z U f hinv o F D E m C ht;have I:ad S2.length (aQ S2.length k) d<2*S.length:=by omega
    rw[N]at s I GF R
    obtain⟨q,hq⟩:∃q,ad (2*S.length) (aQ (2*S.length) k) d=q:=⟨_,rfl⟩
    rw[hq]at s I GF R H
    clear X hq;have aF:(q:Int)<2*(S.length:Int):=by omega
    have B:=(Kp.refl ae wr).alloc (.cells (c4 (some (k,x))).toArray 280);have Y:=ag.new wr (c4 (some (k,x))) 280;have L:=aa (G.out.next B);have r:=aa Y;have Z:=aa s;clear B Y s;go_wp2_with fail;change Code.wp _ _ _ _ (wr.alloc (.cells (c4 (some (k,x))).toArray 280));obtain⟨pb,ac⟩:∃p,wr.heap.size=p:=⟨_,rfl⟩
    rw[ac]at r ⊢
    generalize wr.alloc (.cells (c4 (some (k,x))).toArray 280)=w1 at*;clear ac o0 o1 o2 o3 aC G;have x0:=r.out.ai;have x1:=r.out.aj;have x2:=r.out.aq;have x3:=r.out.aK;have x4:=r.out.a_;have t0:=L.out.mem.top.ai;rw[L.out.len]at t0
    refine ar 10 (by kernel_rfl) (λ_ _ _ _ _ h=>h) ?_;simp only[aO]
    repeat((first
      |refine ay (by rfl) (by as_aux_lemma=>intro W J;have e0:=J.cell x0 id;have e1:=J.cell x1 id;have e2:=J.cell x2 id;have e4:=J.cell x3 id;have e5:=J.cell x4 id;have aG:=J.cell t0 id;go_simp;exact rfl) ?_
      |refine ah (by rfl) ?_
      |refine aR (by rfl) (by as_aux_lemma=>intro W;go_simp;exact⟨rfl,rfl⟩) (by intro W J;with_reducible first|exact GF.out W (L.out.mem.old J)) ?_);simp only[Act.put,aH])
    intro W2 af;have l:=aa (L.out.next af);clear af x0 x1 x2 x3 x4 t0 L r GF;have ax:nb≠tb:=λe=>by have:=l.out.mem;exact(e3 this.l7 this.top (by decide)) e
    have ak:nb≠sb:=λe=>by
     have M:=l.out.mem.l7;have V:=l.out.old;rw[e]at M
     have h3:=(M.inj V).1;have h4:=HC List.length h3;rw[cA c4 5 cI,cA c4 5 cI,N]at h4
     omega
    have al:∀v∈c4 (some (k,x)),v.oneCell'=true:=by
     intro v hv;simp only[c4,Ho,H5,Ia]at hv;rcases hv with rfl|rfl|rfl|rfl|rfl<;>rfl
    have az:q*5+(c4 (some (k,x))).length<=(S2.flatMap c4).length:=by rw[cA c4 5 cI,cI,N];omega
    refine ev rfl 280 (.tmp 33) (.tmp 32) rfl l.out.mem.l7 (q*5) (c4 (some (k,x))) rfl rfl (by kernel_rfl) az al ?_;intro W3 O P an;rw[<-Z.out]at O
    have HF:Hid (th S w W3 tb sb nb (i+1) (S2.set q (some (k,x))) n room):=by
     have V:=P _ _ _ l.out.mem.top ax.symm;have h3:=P _ _ _ l.out.old ak.symm;have hn:=l.out.new;have h4:=an _ _ l.out.kp (.inr hn);exact⟨⟨by rw[Hr];exact V,O⟩,h3,H.out,by rw[Hr];exact N,R.out,h4,hn⟩
    clear l O P an;simp only[Act.put];go_wp2_with fail;go_roundw
    case rel=>exact⟨i+1,nb,S2.set q (some (k,x)),by go_num,by omega,HF.out⟩
    case measure=>simp[intOf];omega
  ·have aA:i=S.length:=by omega
   subst aA;go_wp2_with fail;go_end0;exact⟨rfl,nb,S2,hr.out⟩
def jP.put{S a:bB Th}{n room id d:Nat}{x:Th}(ok:jP S n room)(hp:Pw a.length)(hi:gi (aQ a.length) a)(he:(bw a).Perm (bw S))(hid:id<4294967296)(f:gR (aQ a.length) a id d)(c:bW a (ad a.length (aQ a.length id) d)=none)
    (g:4*(n+1)<=3*a.length) (i:n<room) (j:8<=a.length) (k:a.length<=8192):
    jP (a.set (ad a.length (aQ a.length id) d) (some (id,x))) (n+1) room/\(bw (a.set (ad a.length (aQ a.length id) d) (some (id,x)))).Perm ((id,x)::bw S):=by
 have l:=fG (hi.home id) f.lt;have b:=(qt a _ l c (id,x)).trans (List.Perm.cons _ he);refine⟨⟨by rw[Hr];exact hp,by rw[Hr];exact hi.put f c x,by rw[b.length_eq,Hs,ok.cnt],by rw[Hr];exact g,i,ok.r1,ok.r2,λe h=> ?_,by rw[Hr];exact j,by rw[Hr];exact k⟩,b⟩;rcases Ho.1 (b.mem_iff.1 h)with rfl|h
 ·exact hid
 ·exact ok.ids e h
def yX(w:World)(tb sb:Nat)(S:bB Th)(n room:Nat)(h:dW w tb sb S n room)(ok:jP S n room)(id:Nat)(hid:id<4294967296)(d:Nat)(f:gR (aQ S.length) S id d)(B:bW S (ad S.length (aQ S.length id) d)=none)(x:Th)(R:n<room):
    Calls Tryz.prog 97 #[.pointer (some ⟨tb,0,none⟩),.int .u32 id,en x] w λe w'=>e=.returned (.int .i64 0)/\∃aB S',dW w' tb aB S' (n+1) room/\jP S' (n+1) room/\(bw S').Perm ((id,x)::bw S)/\Kp (λb=>b=tb\/b=sb) w w'/\(aB=sb\/w.heap.size<=aB):=by
 have c0:=h.top.ai;have hN:=ok.pw.pos;have ax:=fG (cQ S.length id hN) f.lt;have a4:=aa h;have GM:=aa (λW (k:Kp ae w W)=>aF (rW W tb sb S n room (h.old k) hN));have a5:=h.top.lt;have GF:=aa (λW (k:Kp ae w W)=>hW S id d ok.pw ok.b2 hid ok.free f W tb sb n room (h.old k));have aC:=λk u h1 h2=>h.cell (ad S.length (aQ S.length id) d) k (u:=u) h1 h2 ax;have F:=f.j5 ok.inv B;have H:=ok.free;have cn:=h.top.aj;have cr:=h.top.aq;have a6:=ok.r2;have aD:((ad S.length (aQ S.length id) d:Nat):Int)<S.length:=by omega
 have a7:¬(room:Int)<=n:=by omega
 rw[B]at aC
 have c1:=aC 1 (.bool false) (by omega) rfl;have aE:=aa f;have aG:=aa B;clear aC h B f;obtain⟨q,hq⟩:∃q,ad S.length (aQ S.length id) d=q:=⟨_,rfl⟩
 have a2:=aa hq;rw[hq]at ax aD c1 GF
 clear hq;go_enter Tryz.func97,Tryz.ntmps97;go_wp2_with fail;refine(GM.out _ ((Kp.refl ae w).alloc _)).mono ?_;rintro e w1 ⟨rfl,k0⟩;have aU:=aa ((ag.new w [.int .i64 x.p,.int .u64 x.b,.int .u64 x.m] 230).kp k0 (λx=>x));have k1:=((Kp.refl ae w).alloc (.cells #[.int .i64 x.p,.int .u64 x.b,.int .u64 x.m] 230)).trans k0;clear k0;have d0:=k1.cell c0 (λx=>x);have d1:=k1.cell c1 (λx=>x);have dn:=k1.cell cn (λx=>x);have dr:=k1.cell cr (λx=>x);have aV:=aa (λW (k:Kp ae w1 W)=>GF.out W (k1.trans k));have aW:=aa k1;clear k1 c0 c1 cn cr;go_wp2_with fail;refine ar 10 (by kernel_rfl) (λ_ _ _ _ _ h=>h) ?_;simp only[aO]
 repeat((first
    |refine ay (by rfl) (by as_aux_lemma=>intro W o;have e0:=o.cell d0 (λx=>x);have e1:=o.cell d1 (λx=>x);go_simp;exact rfl) ?_
    |refine ah (by rfl) ?_
    |refine aR (by rfl) (by as_aux_lemma=>intro W;go_simp;exact⟨rfl,rfl⟩) (by intro W o;with_reducible first|exact aV.out W o) ?_);simp only[Act.put,aH])
 intro W2 j;have aX:=aa j;have M:=aa (aW.out.trans j);have f0:=j.cell d0 (λx=>x);have fn:=j.cell dn (λx=>x);have fr:=j.cell dr (λx=>x);clear j d0 d1 dn dr;go_wp2_with fail;refine ar 9 (by kernel_rfl) (λ_ _ _ _ _ h=>h) ?_;simp only[aO]
 repeat((first
    |refine ay (by rfl) (by as_aux_lemma=>intro W o;have e0:=o.cell fn (λx=>x);have e1:=o.cell fr (λx=>x);go_simp;exact rfl) ?_
    |refine ah (by rfl) ?_);simp only[Act.put,aH])
 intro W3 r;have aY:=aa r;have N:=aa (M.out.trans r);have g0:=r.cell f0 (λx=>x);have gn:=r.cell fn (λx=>x);clear r f0 fn fr;go_wp2_with fail;have a8:=ok.b2;refine ar 12 (by kernel_rfl) (λ_ _ _ _ _ h=>h) ?_;simp only[aO]
 repeat((first
    |refine ay (by rfl) (by as_aux_lemma=>intro W o;have e0:=o.cell g0 (λx=>x);have e1:=o.cell gn (λx=>x);go_simp;exact rfl) ?_
    |refine ah (by rfl) ?_);simp only[Act.put,aH])
 intro W4 aI;have T:=aa (N.out.trans aI);have aJ:=aa (a4.out.old T.out);have aA:=aa (aU.out.kp (((aX.out.trans aY.out).trans aI)) (λx=>x));clear aI g0 gn GF aV GM aW M N aU;by_cases a9:3*S.length<4*(n+1)
 ·have a0:3*(S.length:Int)<4*((n:Int)+1):=by omega
  have GG:=aa (DL W4 tb sb S n room aJ.out ok (by omega));have hsz:=T.out.size;clear ax aD aE a2 aG;go_wp2_with fail;refine GG.out.mono ?_;rintro e W1 ⟨rfl,g,c,G⟩;have a_:=(Pw.o4 ok.pw (by omega)).2;have l:=aa G.mem;have I:Pw c.length:=by rw[G.len];exact(Pw.o4 ok.pw (by omega)).1
  have U:c.length<=8192:=by rw[G.len];omega
  have O:gi (aQ c.length) c:=by rw[G.len];exact G.inv
  have J:(bw c).Perm (bw S):=by have:=G.br;rwa [H9]at this
  have aK:8<=c.length:=by rw[G.len];have:=ok.b1;omega
  have aL:4*(n+1)<=3*c.length:=by rw[G.len];have:=ok.load;have:=ok.b1;omega
  have P:∃i,i<c.length/\bW c i=none:=unused c (by have:=J.length_eq;have:=ok.cnt;omega);obtain⟨d1,f1⟩:=gR.there (hm:=aQ c.length) (λid=>cQ _ _ (by omega)) id P;have V:bW c (ad c.length (aQ c.length id) d1)=none:=by
   rcases f1.fin with h1|⟨y,h1⟩
   ·exact h1
   ·obtain⟨i,hi,a1⟩:=(gw S _).1 (J.mem_iff.1 ((gw c _).2 ⟨_,fG (O.home id) f1.lt,h1⟩));exact absurd a1 (F i y hi)
  have a3:=G.new;have K:Hid (ag W1 w.heap.size [.int .i64 x.p,.int .u64 x.b,.int .u64 x.m] 230):=aA.out.kp G.kp (λe=>by omega);have aM:Hid (Kp (λb=>b=tb\/b=sb) w W1):=(T.out.mono (λ_ _ x=>x.elim)).then G.kp (λ_ _ x=>.inl x);have X:(g=tb\/g=sb)\/w.heap.size<=g:=.inr (by omega);have Y:g=sb\/w.heap.size<=g:=.inr (by omega);clear F H T aJ GG G;go_wp2_with fail;as_aux_lemma=>
   have s:=l.out.top.ai;have aN:=l.out.top.aj;have Z:=K.out.ai;have ac:=K.out.aj;have af:=K.out.aq;have aP:=aa (λW (k:Kp ae W1 W)=>hW c id d1 I U hid P f1 W tb g n room (l.out.old k));have ak:=fG (cQ c.length id I.pos) f1.lt;have al:=eD c4 5 cI c (ad c.length (aQ c.length id) d1) (some (id,x)) ak;have an:=aa (ok.put (x:=x) I O J hid f1 V aL R aK U);have ao:=cA c4 5 cI c;generalize ad c.length (aQ c.length id) d1=Q at*;have aZ:(Q:Int)<c.length:=by omega
   have t:g≠tb:=λe=>e3 l.out.l7 l.out.top (by decide) e;have D:tb≠g:=t.symm;clear f1 O J V P;go_wp2_with fail;refine ar 11 (by kernel_rfl) (λ_ _ _ _ _ h=>h) ?_;simp only[aO]
   repeat((first
    |refine ay (by rfl) (by as_aux_lemma=>intro W o;have e0:=o.cell s (λx=>x);have e1:=o.cell Z (λx=>x);have e2:=o.cell ac (λx=>x);have ba:=o.cell af (λx=>x);go_simp;exact rfl) ?_
    |refine ah (by rfl) ?_
    |refine aR (by rfl) (by as_aux_lemma=>intro W;go_simp;exact⟨rfl,rfl⟩) (by intro W o;with_reducible first|exact aP.out W o) ?_);simp only[Act.put,aH])
   intro W2 j;have au:=aa (l.out.old j);have M:=aa (aM.out.then j (λ_ _ x=>x.elim));have E:∀v∈c4 (some (id,x)),v.oneCell'=true:=by
    intro v hv;simp only[c4,Ho,H5,Ia]at hv;rcases hv with rfl|rfl|rfl|rfl|rfl<;>rfl
   have av:Q*5+(c4 (some (id,x))).length<=(c.flatMap c4).length:=by rw[ao,cI];omega
   have z:(c.set Q (some (id,x))).length=c.length:=Hr ..;clear s aN al j Z ac af;refine ev rfl 280 (.tmp 57) (.tmp 56) rfl au.out.l7 (Q*5) (c4 (some (id,x))) rfl rfl (by kernel_rfl) av E ?_;intro W3 L aw r;rw[<-eD c4 5 cI c Q _ ak]at L
   have C:=aw _ _ _ au.out.top D;have N:=aa (r _ _ M.out X);have zt:=C.fz 1;have tn:=C.aj;have HF:Hid (dW (W3.setCell ⟨tb,1,none⟩ (.int .i64 ((n:Int)+1))) tb g (c.set Q (some (id,x))) (n+1) room):=by
    have h2:=C.set 1 (.int .i64 ((n:Int)+1));exact⟨by rw[z];exact h2,L.bJ (a:=⟨tb,1,none⟩) t _⟩
   have aS:Hid (Kp (λb=>b=tb\/b=sb) w (W3.setCell ⟨tb,1,none⟩ (.int .i64 ((n:Int)+1)))):=N.out.set (p:=⟨tb,1,none⟩) (.inl (.inl rfl)) _;clear L aw r C t D av E z ao;simp only[Act.put];as_aux_lemma=>
    go_wp2_with fail;go_ret;exact⟨rfl,g,_,HF.out,an.out.1,an.out.2,aS.out,Y⟩
 ·obtain⟨W1,bb⟩:∃W1:World,W1=W4:=⟨_,rfl⟩
  subst bb;have a0:¬3*(S.length:Int)<4*((n:Int)+1):=by omega
  have aM:Hid (Kp (λb=>b=tb\/b=sb) w W1):=T.out.mono (λ_ _ x=>x.elim);have K:=aA;obtain⟨c,A⟩:∃c:bB Th,c=S:=⟨_,rfl⟩
  obtain⟨g,az⟩:∃g,g=sb:=⟨_,rfl⟩
  obtain⟨d1,aT⟩:∃d1,d1=d:=⟨_,rfl⟩
  have l:Hid (dW W1 tb g c n room):=by rw[A,az];exact aJ.out
  have I:Pw c.length:=by rw[A];exact ok.pw
  have U:c.length<=8192:=by rw[A];exact ok.b2
  have O:gi (aQ c.length) c:=by rw[A];exact ok.inv
  have J:(bw c).Perm (bw S):=by rw[A]
  have P:∃i,i<c.length/\bW c i=none:=by rw[A];exact H
  have f1:gR (aQ c.length) c id d1:=by rw[A,aT];exact aE.out
  have V:bW c (ad c.length (aQ c.length id) d1)=none:=by rw[A,aT];exact aG.out
  have aL:4*(n+1)<=3*c.length:=by rw[A];omega
  have aK:8<=c.length:=by rw[A];exact ok.b1
  have X:(g=tb\/g=sb)\/w.heap.size<=g:=.inl (.inr az);have Y:g=sb\/w.heap.size<=g:=.inl az;clear az aT ax aD H F aE aG a2;clear A;go_wp2_with fail;as_aux_lemma=>
   have s:=l.out.top.ai;have aN:=l.out.top.aj;have Z:=K.out.ai;have ac:=K.out.aj;have af:=K.out.aq;have aP:=aa (λW (k:Kp ae W1 W)=>hW c id d1 I U hid P f1 W tb g n room (l.out.old k));have ak:=fG (cQ c.length id I.pos) f1.lt;have al:=eD c4 5 cI c (ad c.length (aQ c.length id) d1) (some (id,x)) ak;have an:=aa (ok.put (x:=x) I O J hid f1 V aL R aK U);have ao:=cA c4 5 cI c;generalize ad c.length (aQ c.length id) d1=Q at*;have aZ:(Q:Int)<c.length:=by omega
   have t:g≠tb:=λe=>e3 l.out.l7 l.out.top (by decide) e;have D:tb≠g:=t.symm;clear f1 O J V P;go_wp2_with fail;refine ar 11 (by kernel_rfl) (λ_ _ _ _ _ h=>h) ?_;simp only[aO]
   repeat((first
    |refine ay (by rfl) (by as_aux_lemma=>intro W o;have e0:=o.cell s (λx=>x);have e1:=o.cell Z (λx=>x);have e2:=o.cell ac (λx=>x);have ba:=o.cell af (λx=>x);go_simp;exact rfl) ?_
    |refine ah (by rfl) ?_
    |refine aR (by rfl) (by as_aux_lemma=>intro W;go_simp;exact⟨rfl,rfl⟩) (by intro W o;with_reducible first|exact aP.out W o) ?_);simp only[Act.put,aH])
   intro W2 j;have au:=aa (l.out.old j);have M:=aa (aM.out.then j (λ_ _ x=>x.elim));have E:∀v∈c4 (some (id,x)),v.oneCell'=true:=by
    intro v hv;simp only[c4,Ho,H5,Ia]at hv;rcases hv with rfl|rfl|rfl|rfl|rfl<;>rfl
   have av:Q*5+(c4 (some (id,x))).length<=(c.flatMap c4).length:=by rw[ao,cI];omega
   have z:(c.set Q (some (id,x))).length=c.length:=Hr ..;clear s aN al j Z ac af;refine ev rfl 280 (.tmp 57) (.tmp 56) rfl au.out.l7 (Q*5) (c4 (some (id,x))) rfl rfl (by kernel_rfl) av E ?_;intro W3 L aw r;rw[<-eD c4 5 cI c Q _ ak]at L
   have C:=aw _ _ _ au.out.top D;have N:=aa (r _ _ M.out X);have zt:=C.fz 1;have tn:=C.aj;have HF:Hid (dW (W3.setCell ⟨tb,1,none⟩ (.int .i64 ((n:Int)+1))) tb g (c.set Q (some (id,x))) (n+1) room):=by
    have h2:=C.set 1 (.int .i64 ((n:Int)+1));exact⟨by rw[z];exact h2,L.bJ (a:=⟨tb,1,none⟩) t _⟩
   have aS:Hid (Kp (λb=>b=tb\/b=sb) w (W3.setCell ⟨tb,1,none⟩ (.int .i64 ((n:Int)+1)))):=N.out.set (p:=⟨tb,1,none⟩) (.inl (.inl rfl)) _;clear L aw r C t D av E z ao;simp only[Act.put];as_aux_lemma=>
    go_wp2_with fail;go_ret;exact⟨rfl,g,_,HF.out,an.out.1,an.out.2,aS.out,Y⟩
def jP.new(room:Nat)(a:1<=room)(b:room<=4096):jP (List.replicate 8 none) 0 room:=
 ⟨⟨3,by decide,rfl⟩,gi.nil 8 (λid=>cQ 8 id (by decide)),by rw[kA];rfl,by decide,Hv _,a,b,λe h=>(by rw[kA]at h;cases h),by decide,by decide⟩
def yY(room:Nat)(f:1<=room)(i:room<=4096)(w:World):Calls Tryz.prog 96 #[.int .i64 room] w λe w'=>∃tb sb,e=.returned (.tuple #[.pointer (some ⟨tb,0,none⟩),.int .i64 0])/\dW w' tb sb (List.replicate 8 none) 0 room/\w.heap.size<=tb/\w.heap.size<=sb/\Kp ae w w':=by
 have c:=ew Fx c4 cI none rfl 8 (by omega) (by omega) w;have d1:¬(room:Int)<1:=by omega
 have d2:¬(4096:Int)<room:=by omega
 have d:(Instr.makeSlice 276 (.int .i64 8) (.int .i64 8)).run Tryz.prog w=.ok (.slice (some ⟨w.heap.size,0,none⟩) 8 8) (w.alloc (.cells ((List.replicate 8 (none:Option (Nat×Th))).flatMap c4).toArray 280)):=c;obtain⟨b,a⟩:∃b,(List.replicate 8 (none:Option (Nat×Th))).flatMap c4=b:=⟨_,rfl⟩
 have g:Hid (dW ((w.alloc (.cells b.toArray 280)).alloc (.cells #[.slice (some ⟨w.heap.size,0,none⟩) 8 8,.int .i64 0,.int .i64 room] 278)) (w.heap.size+1) w.heap.size (List.replicate 8 none) 0 room):=by
  have f:=ag.new (w.alloc (.cells b.toArray 280)) [.slice (some ⟨w.heap.size,0,none⟩) 8 8,.int .i64 0,.int .i64 room] 278;rw[HB]at f
  exact⟨f,by rw[a];exact(ag.new w b _).alloc _⟩
 have h:Hid (Kp ae w ((w.alloc (.cells b.toArray 280)).alloc (.cells #[.slice (some ⟨w.heap.size,0,none⟩) 8 8,.int .i64 0,.int .i64 room] 278))):=((Kp.refl _ _).alloc _).alloc _;rw[a]at d
 clear c a;go_enter Tryz.func96,Tryz.ntmps96;go_wp2;go_ret2;exact⟨w.heap.size+1,rfl,w.heap.size,g.out,by omega,by omega,h.out⟩
def uL{hm:Nat->Nat}{S:bB Th}(h:gi hm S):((bw S).map (·.1)).Nodup:=by
 unfold bw List.Nodup;rw[List.pairwise_map,List.pairwise_filterMap,IM];intro i j hi a c x b y hy e;simp only[id]at b hy;have tx:bW S i=some (x.1,x.2):=by unfold bW;rw[Hx,Hn hi,b];rfl
 have ty:bW S j=some (x.1,y.2):=by unfold bW;rw[Hx,Hn a,hy,e];rfl
 have:=h.one i j x.1 x.2 y.2 hi a tx ty;omega
def ti{S:bB Th}{n room id d:Nat}(ok:jP S n room)(f:gR (aQ S.length) S id d)(a:∀y,(id,y)∉bw S):bW S (ad S.length (aQ S.length id) d)=none:=by
 rcases f.fin with h|⟨y,h⟩
 ·exact h
 ·exact absurd ((f.j7 ok.inv y).1 h) (a y)
def Tf(w:World)(F:Nat->Prop)(tb room:Nat)(E:List (Nat×Th)):Prop:=∃sb S n,F=(λb=>b=tb\/b=sb)/\dW w tb sb S n room/\jP S n room/\(bw S).Perm E
def Tf.kp{T:Nat->Prop}{w w':World}{F:Nat->Prop}{tb room:Nat}{E:List (Nat×Th)}(h:Tf w F tb room E)(k:Kp T w w')(a:∀b,F b->¬T b):Tf w' F tb room E:=by
 obtain⟨sb,S,n,rfl,hm,ok,hp⟩:=h;exact⟨sb,S,n,rfl,hm.kp k (a _ (.inl rfl)) (a _ (.inr rfl)),ok,hp⟩
def Tf.old{w w':World}{F:Nat->Prop}{tb room:Nat}{E:List (Nat×Th)}(h:Tf w F tb room E)(k:Kp ae w w'):Tf w' F tb room E:=h.kp k (λ_ _ x=>x)
def Tf.lt{w:World}{F:Nat->Prop}{tb room:Nat}{E:List (Nat×Th)}(h:Tf w F tb room E){b:Nat}(a:F b):b<w.heap.size:=by
 obtain⟨sb,S,n,rfl,hm,ok,hp⟩:=h;rcases a with rfl|rfl
 ·exact hm.top.lt
 ·exact hm.l7.lt
def Fy(room:Nat)(a:1<=room)(c:room<=4096)(w:World):Calls Tryz.prog 96 #[.int .i64 room] w λe w'=>∃F tb,e=.returned (.tuple #[.pointer (some ⟨tb,0,none⟩),.int .i64 0])/\Tf w' F tb room []/\(∀b,F b->w.heap.size<=b)/\Kp ae w w':=
 (yY room a c w).mono λe w' ⟨tb,sb,he,hm,d,f,g⟩=>⟨_,tb,he,⟨sb,_,0,rfl,hm,jP.new room a c,by rw[kA]⟩,λb h=>by rcases h with rfl|rfl<;>assumption,g⟩
def yZ{w:World}{F:Nat->Prop}{tb room:Nat}{E:List (Nat×Th)}(h:Tf w F tb room E)(id:Nat)(hid:id<4294967296)(x:Th)(l:∀y,(id,y)∉E)(q:E.length<room):
    Calls Tryz.prog 97 #[.pointer (some ⟨tb,0,none⟩),.int .u32 id,en x] w λe w'=>e=.returned (.int .i64 0)/\∃k,Tf w' k tb room ((id,x)::E)/\Kp F w w'/\Nw w F k:=by
 obtain⟨sb,S,n,rfl,hm,ok,hp⟩:=h;obtain⟨d,f⟩:=gR.there (hm:=aQ S.length) (λid=>cQ _ _ ok.pw.pos) id ok.free;have m:=hp.length_eq;rw[ok.cnt]at m
 refine(yX w tb sb S n room hm ok id hid d f (ti ok f (λy hy=>l y (hp.mem_iff.1 hy))) x (by omega)).mono ?_;rintro e w' ⟨he,a,S',c,g,i,o,j⟩;refine⟨he,_,⟨a,S',n+1,rfl,c,g,i.trans (List.Perm.cons _ hp)⟩,o,λb p=> ?_⟩;rcases p with rfl|rfl
 ·exact .inl (.inl rfl)
 ·rcases j with rfl|j
  ·exact .inl (.inr rfl)
  ·exact .inr j
def y0{w:World}{F:Nat->Prop}{tb room:Nat}{E:List (Nat×Th)}(h:Tf w F tb room E)(id:Nat)(hid:id<4294967296)(x:Th)(a:(id,x)∈E):Calls Tryz.prog 134 #[.pointer (some ⟨tb,0,none⟩),.int .u32 id] w λe w'=>e=.returned (.tuple #[en x,.bool true])/\Kp ae w w':=by
 obtain⟨sb,S,n,_,hm,ok,hp⟩:=h;obtain⟨d,f⟩:=gR.there (hm:=aQ S.length) (λid=>cQ _ _ ok.pw.pos) id ok.free;exact xp w tb sb S n room hm ok id hid d f x ((f.j7 ok.inv x).2 (hp.mem_iff.2 a))
def xq{w:World}{F:Nat->Prop}{tb room:Nat}{E:List (Nat×Th)}(h:Tf w F tb room E)(id:Nat)(hid:id<4294967296)(a:∀y,(id,y)∉E):Calls Tryz.prog 134 #[.pointer (some ⟨tb,0,none⟩),.int .u32 id] w λe w'=>e=.returned (.tuple #[en zx,.bool false])/\Kp ae w w':=by
 obtain⟨sb,S,n,_,hm,ok,hp⟩:=h;obtain⟨d,f⟩:=gR.there (hm:=aQ S.length) (λid=>cQ _ _ ok.pw.pos) id ok.free;exact xo w tb sb S n room hm ok id hid d f (ti ok f (λy hy=>a y (hp.mem_iff.1 hy)))
end flowOwn
section
open flowOwn (Th)
def ob(a s:Nat):Nat:=if a*2^s<18446744073709551616 then a*2^s else 18446744073709551615
structure Ga where
 c:ey
 st:List Th
def aE(l:List Th):Int:=(l.map (·.p)).sum
def cN(l:List Th):Nat:=(l.map (·.b)).sum
def e1(l:List dF)(st:List Th):List (Nat×Th):=(l.zip st).map (λe=>(e.1.id,e.2))
structure Ga.Ok (g:Ga):Prop where
 xr:g.c.ok
 Fz:eX g.c=0
 len:g.st.length=g.c.av.length
 y1:∀(i:Nat) (x:Th) (f:dF),g.st[i]? =some x->g.c.av[i]? =some f->x.m=f.cap
 own:∀x∈g.st,0<=x.p/\x.b<=x.m
 xt:cN g.st<=g.c.bytes
 DM:aE g.st<=g.c.aB
def Ga.Ok.o5{g:Ga}(h:g.Ok):1<=g.c.aB/\g.c.aB<=4096/\0<=g.c.share/\g.c.share<=16/\1<=g.c.ei/\g.c.ei<=65535/\dM g.c.av=0:=by
 have:=h.Fz;unfold eX at this;split at this
 ·omega
 ·split at this
  ·omega
  ·split at this
   ·omega
   ·omega
def Ga.Ok.Be{g:Ga}(h:g.Ok):(g.c.av.map (·.id)).Nodup/\1<=g.c.av.length/\g.c.av.length<=64:=by
 have:=h.o5.2.2.2.2.2.2;unfold dM at this;split at this
 ·omega
 ·split at this
  ·rename_i b a;exact⟨a,by omega,by omega⟩
  ·omega
def Ga.at(g:Ga)(id:Nat):Int:=findF g.c.av id
def Ga.x(g:Ga)(id:Nat):Th:=(g.st[(g.at id).toNat]?).getD ⟨0,0,0⟩
def fO(g:Ga)(id n:Nat):Int:=
 if n=0\/g.c.ei<n then 12 else if g.at id<0 then 13 else if g.c.aB<=aE g.st then 14 else if g.c.bytes-cN g.st<n then 15
 else if(g.x id).m-(g.x id).b<n then 16 else 0
def bP(g:Ga)(id n:Nat):Int:=
 if fO g id n≠0 then fO g id n else if ob (g.c.bytes-cN g.st) g.c.share.toNat<=(g.x id).b then 17 else 0
def Ga.put(g:Ga)(id:Nat)(x:Th):Ga:= {g with st:=g.st.set (g.at id).toNat x}
def Ga.lay(g:Ga)(id n:Nat):Ga:=g.put id ⟨(g.x id).p+1,(g.x id).b+n,(g.x id).m⟩
def iR(g:Ga)(id n:Nat):Ga:=if bP g id n=0 then g.lay id n else g
def jM(g:Ga)(id n:Nat):Int:=if g.at id<0 then 13 else if(g.x id).p=0\/(g.x id).b<n then 9 else 0
def fq(g:Ga)(id n:Nat):Ga:=if jM g id n=0 then g.put id ⟨(g.x id).p-1,(g.x id).b-n,(g.x id).m⟩else g
def y2(l:List Int)(i:Nat)(v:Int)(h:i<l.length):(l.set i v).sum=l.sum-l[i]+v:=by
 induction l generalizing i with
 |nil=>simp at h
 |cons a r b=>
  cases i with
  |zero=>simp;omega
  |succ i=>
   have:=b i (by simpa using h);simp only[IE,IK,Kg,this];omega
def qK(l:List Nat)(i:Nat)(v:Nat)(h:i<l.length):(l.set i v).sum+l[i]=l.sum+v:=by
 induction l generalizing i with
 |nil=>simp at h
 |cons a r b=>
  cases i with
  |zero=>simp;omega
  |succ i=>
   have:=b i (by simpa using h);simp only[IE,IK,Kg];omega
def hD(l:List Th)(i:Nat)(x:Th)(h:i<l.length):aE (l.set i x)=aE l-(l[i]).p+x.p:=by
 unfold aE;rw[Is,y2 _ _ _ (by simpa using h)];simp
def mT(l:List Th)(i:Nat)(x:Th)(h:i<l.length):cN (l.set i x)+(l[i]).b=cN l+x.b:=by
 unfold cN;have:=qK (l.map (·.b)) i x.b (by simpa using h);rw[Is];simpa using this
def fP{l:List Th}{x:Th}(h:x∈l):x.b<=cN l:=by
 induction l with
 |nil=>cases h
 |cons a r c=>
  unfold cN at*;simp only[HA,IK];rcases Ho.1 h with rfl|h
  ·omega
  ·have:=c h;omega
def l8{l:List Th}(c:∀y∈l,0<=y.p){x:Th}(h:x∈l):x.p<=aE l:=by
 induction l with
 |nil=>cases h
 |cons a r d=>
  have e:0<=aE r:=by
   clear d h;induction r with
   |nil=>simp[aE]
   |cons b r d=>
    have f:=d (λy hy=>c y (by simp at hy ⊢;rcases hy with h|h;exact .inl h;exact .inr (.inr h)));have g:=c b (by simp);unfold aE at*;simp only[HA,IK];omega
  have ha:=c a (by simp);rcases Ho.1 h with rfl|h
  ·unfold aE at*;simp only[HA,IK];omega
  ·have:=d (λy hy=>c y (by simp[hy])) h;unfold aE at*;simp only[HA,IK];omega
def Ga.Ok.GR{g:Ga}(h:g.Ok)(id:Nat): -1<=g.at id/\g.at id<g.st.length:=by
 have:=ky g.c.av id;have:=h.len;unfold Ga.at;omega
def Ga.Ok.js{g:Ga}(h:g.Ok){id:Nat}(b:0<=g.at id):∃h:(g.at id).toNat<g.st.length,g.x id=g.st[(g.at id).toNat]:=by
 have:=h.GR id;have a:(g.at id).toNat<g.st.length:=by omega
 exact⟨a,by unfold Ga.x;rw[Hn a];rfl⟩
def Ga.Ok.hc{g:Ga}(h:g.Ok){id:Nat}(a:0<=g.at id):g.x id∈g.st:=by
 obtain⟨b,c⟩:=h.js a;rw[c];exact Ht b
def Ga.Ok.put{g:Ga}(h:g.Ok){id:Nat}(d:0<=g.at id)(x:Th)(hm:x.m=(g.x id).m)(hp:0<=x.p)(l:x.b<=x.m)(q:cN g.st-(g.x id).b+x.b<=g.c.bytes)(n:aE g.st-(g.x id).p+x.p<=g.c.aB):(g.put id x).Ok:=by
 obtain⟨a,j⟩:=h.js d;have o:=mT g.st _ x a;have k:=hD g.st _ x a;have r:=fP (h.hc d);rw[<-j]at o k
 refine⟨h.xr,h.Fz,by show(g.st.set _ _).length=_;rw[Hr];exact h.len,λi y f hi hf=> ?_,λy hy=> ?_,by show cN (g.st.set _ _)<=g.c.bytes;omega,by show aE (g.st.set _ _)<=g.c.aB;rw[k];exact n⟩
 ·have hi:(g.st.set (g.at id).toNat x)[i]? =some y:=hi;have hf:g.c.av[i]? =some f:=hf;by_cases e:(g.at id).toNat=i
  ·subst e;rw[H8 a]at hi
   injection hi with hi;subst hi;rw[hm];exact h.y1 _ _ f (by rw[j];exact Hn a) hf
  ·rw[HL e]at hi
   exact h.y1 i y f hi hf
 ·rcases Il hy with hy|rfl
  ·exact h.own y hy
  ·exact⟨hp,l⟩
def o6{l:List dF}{st:List Th}(d:st.length=l.length)(g:(l.map (·.id)).Nodup)(id:Nat):(0<=findF l id->(id,(st[(findF l id).toNat]?).getD ⟨0,0,0⟩)∈e1 l st)/\(findF l id<0->∀y,(id,y)∉e1 l st):=by
 induction l generalizing st with
 |nil=>simp[findF,e1]
 |cons f r a=>
  cases st with
  |nil=>simp at d
  |cons s st=>
   have a:=a (st:=st) (by simpa using d) (by rw[HA,H6]at g;exact g.2);have i:=ky r id;unfold findF;by_cases b:f.id=id
   ·rw[Hl b];refine⟨λ_=>by subst b;simp[e1],λh=>by omega⟩
   ·rw[Hk b];by_cases c:findF r id<0
    ·rw[Hl c];refine⟨λh=>by omega,λ_ y hy=> ?_⟩;simp only[e1,KZ,HA,Ho,Prod.mk.injEq]at hy;rcases hy with⟨e,_⟩|hy
     ·exact b e.symm
     ·exact a.2 c y hy
    ·rw[Hk c];refine⟨λ_=> ?_,λh=>by omega⟩;have e:(findF r id+1).toNat=(findF r id).toNat+1:=by omega
     rw[e,IX];have:=a.1 (by omega);unfold e1 at*;simp only[KZ,HA,Ho];exact .inr this
def y3{l:List dF}{st:List Th}(k:st.length=l.length)(h:(l.map (·.id)).Nodup)(id:Nat)(x:Th)(d:0<=findF l id):(e1 l st).map (λe=>if e.1=id then(id,x)else e)=e1 l (st.set (findF l id).toNat x):=by
 induction l generalizing st with
 |nil=>simp[findF]at d
 |cons f r i=>
  cases st with
  |nil=>simp at k
  |cons s st=>
   rw[HA,H6]at h
   have i:=i (st:=st) (by simpa using k) h.2;have q:=ky r id;have hex:∀a:List Th,f.id=id->(e1 r a).map (λe=>if e.1=id then(id,x)else e)=e1 r a:=λa j=>by
    refine(Jc (g:=λe=>e) (λe he=>Hk ?_)).trans (List.map_id' _);unfold e1 at he;obtain⟨p,hp,rfl⟩:=Hw.1 he;intro o;exact h.1 (by rw[j];show id∈_;rw[<-o];exact Km (List.of_mem_zip hp).1)
   have b:∀(m:Th) (a:List Th),e1 (f::r) (m::a)=(f.id,m)::e1 r a:=λ_ _=>rfl;rw[b,HA];unfold findF at d ⊢;by_cases c:f.id=id
   ·rw[Hl c,Hl c,hex st c];show _=e1 (f::r) ((s::st).set 0 x);rw[I7,b,c]
   ·rw[Hk c]at d ⊢
    rw[Hk c];by_cases n:findF r id<0
    ·rw[Hl n]at d;omega
    ·rw[Hk n];have e:(findF r id+1).toNat=(findF r id).toNat+1:=by omega
     rw[e,IE,b,i (by omega)]
end
namespace flowOwn
open Go.RowKit
def l9(id:Nat)(x:Th)(E:List (Nat×Th)):List (Nat×Th):=E.map (λe=>if e.1=id then(id,x)else e)
def o7{S:bB Th}{q id:Nat}{y:Th}(x:Th)(a:q<S.length)(ht:bW S q=some (id,y))(i k:Nat)(z:Th)(h:bW (S.set q (some (id,x))) i=some (k,z)):∃b,bW S i=some (k,b):=by
 rw[j4 S q i _ a]at h
 by_cases hi:i=q
 ·rw[Hl hi]at h
  simp only[Option.some.injEq,Prod.mk.injEq]at h;exact⟨y,by rw[hi,ht,h.1]⟩
 ·rw[Hk hi]at h;exact⟨z,h⟩
def xu{S:bB Th}{q id:Nat}{y:Th}(x:Th)(a:q<S.length)(ht:bW S q=some (id,y))(i:Nat)(h:bW S i≠none):bW (S.set q (some (id,x))) i≠none:=by
 rw[j4 S q i _ a];split
 ·simp
 ·exact h
def y4{hm:Nat->Nat}{S:bB Th}(h:gi hm S){q id:Nat}{y:Th}(x:Th)(b:q<S.length)(ht:bW S q=some (id,y)):gi hm (S.set q (some (id,x))):=by
 refine⟨λk=>by rw[Hr];exact h.home k,λi k z hi he d hd=> ?_,λi j k z z2 hi g he hf=> ?_⟩
 ·rw[Hr]at hi hd ⊢
  obtain⟨c,a⟩:=o7 x b ht i k z he;exact xu x b ht _ (h.path i k c hi a d hd)
 ·rw[Hr]at hi g
  obtain⟨c,a⟩:=o7 x b ht i k z he;obtain⟨e,f⟩:=o7 x b ht j k z2 hf;exact h.one i j k c e hi g a f
def xv{S:bB Th}{q id:Nat}{y:Th}(x:Th)(c:q<S.length)(ht:bW S q=some (id,y))(b:((bw S).map (·.1)).Nodup):bw (S.set q (some (id,x)))=l9 id x (bw S):=by
 rw[j6 S q c,lq S q c,ht];rw[lq S q c,ht]at b
 simp only[Option.toList_some,HE,HA,Ik,Ir,KK]at b ⊢;rw[Ib]at b
 obtain⟨_,f,h⟩:=b;rw[H6]at f
 have a:∀L:List (Nat×Th),(∀e∈L,e.1≠id)->L.map (λe=>if e.1=id then(id,x)else e)=L:=λL i=>by
  rw[Jc (g:=λe=>e) (λe he=>Hk (i e he))];exact List.map_id' L
 unfold l9;rw[HE,HA,Hl rfl,a _ (λe he d=>h e.1 (Km he) id (by simp) d),a _ (λe he d=>f.1 (by rw[<-d];exact Km he))]
def uM{α:Type}(en:α->List Value)(sz:Nat)(b:∀a,(en a).length=sz)(l:List α)(i:Nat)(c a:α)(o:Nat)(e:List Value)(hi:l[i]? =some c)(j:o+e.length<=sz)(ha:en a=cL (en c) o e):cL (l.flatMap en) (i*sz+o) e=(l.set i a).flatMap en:=by
 have d:i<l.length:=(HD.1 hi).1;have hlen:=cA en sz b l;have f:i*sz+sz<=l.length*sz:=by rw[<-Jh];exact I0 _ d
 rw[eD en sz b l i a d];apply IZ;intro k;rw[fA _ _ _ _ (by rw[hlen];omega),fA _ _ _ _ (by rw[hlen,b];exact f),b];by_cases g:i*sz<=k/\k<i*sz+sz
 ·rw[Hl g,ha,fA _ _ _ _ (by rw[b];exact j)];obtain⟨m,rfl⟩:∃m,k=i*sz+m:=⟨k-i*sz,by omega⟩
  rw[Kb];by_cases h:o<=m/\m<o+e.length
  ·rw[Hl (by omega),Hl h];congr 1;omega
  ·rw[Hk (by omega),Hk h,flat_get en sz b l i m (by omega),hi];rfl
 ·rw[Hk g,Hk (by omega)]
def xw(w:World)(tb sb:Nat)(S:bB Th)(n room:Nat)(h:dW w tb sb S n room)(ok:jP S n room)(id:Nat)(hid:id<4294967296)(d:Nat)(f:gR (aQ S.length) S id d)(y:Th)(ht:bW S (ad S.length (aQ S.length id) d)=some (id,y))(x:Th):
    Calls Tryz.prog 136 #[.pointer (some ⟨tb,0,none⟩),.int .u32 id,en x] w λe w'=>e=.returned (.bool true)/\∃S',dW w' tb sb S' n room/\jP S' n room/\bw S'=l9 id x (bw S)/\Kp (λb=>b=tb\/b=sb) w w':=by
 have c:=h.top.ai;have V:=ok.pw.pos;have i:=fG (cQ S.length id V) f.lt;have GM:=aa (λW (k:Kp ae w W)=>aF (rW W tb sb S n room (h.old k) V));have GF:=aa (λW (k:Kp ae w W)=>hW S id d ok.pw ok.b2 hid ok.free f W tb sb n room (h.old k));have o:=λk u h1 h2=>h.cell (ad S.length (aQ S.length id) d) k (u:=u) h1 h2 i;generalize ad S.length (aQ S.length id) d=q at*;have ac:(q:Int)<S.length:=by omega
 have t:tb≠sb:=λq=>e3 h.top h.l7 (by decide) q;have a:=xv x i ht (uL ok.inv);have z:S[q]? =some (some (id,y)):=by
  unfold bW at ht;rw[Hx,Hn i]at ht
  rw[Hn i];simpa using ht
 have A:cL (S.flatMap c4) (q*5+2) (Bd x)=(S.set q (some (id,x))).flatMap c4:=by
  exact uM c4 5 cI S q (some (id,y)) (some (id,x)) 2 (Bd x) z (by show 2+3<=5;omega) rfl
 have B:jP (S.set q (some (id,x))) n room:=by
  have C:(S.set q (some (id,x))).length=S.length:=Hr;refine⟨by rw[C];exact ok.pw,by rw[C];exact y4 ok.inv x i ht,?_,by rw[C];exact ok.load,ok.nr,ok.r1,ok.r2,?_,by rw[C];exact ok.b1,by rw[C];exact ok.b2⟩
  ·rw[a];unfold l9;rw[Hq];exact ok.cnt
  ·rw[a];unfold l9;intro e he;obtain⟨e',K,rfl⟩:=Hw.1 he;split
   ·exact hid
   ·exact ok.ids _ K
 have af:=aa h;have L:=aa B;have M:=aa a;have N:=aa A;clear h f B a A z;rw[ht]at o
 have c1:=o 1 (.bool true) (by omega) rfl;clear o ht;go_enter Tryz.func136,Tryz.ntmps136;go_wp2_with fail;have D:=aa (ag.new w [.int .i64 x.p,.int .u64 x.b,.int .u64 x.m] 230);have j:=aa ((Kp.refl ae w).alloc (.cells #[.int .i64 x.p,.int .u64 x.b,.int .u64 x.m] 230));change Code.wp _ _ _ _ (w.alloc (.cells #[.int .i64 x.p,.int .u64 x.b,.int .u64 x.m] 230));generalize w.alloc (.cells #[.int .i64 x.p,.int .u64 x.b,.int .u64 x.m] 230)=X at*;have d0:=j.out.cell c (λx=>x);have d1:=j.out.cell c1 (λx=>x);have O:=aa (λW (k:Kp ae X W)=>GM.out W (j.out.trans k));have E:=aa (λW (k:Kp ae X W)=>GF.out W (j.out.trans k));refine ar 15 (by kernel_rfl) (λ_ _ _ _ _ h=>h) ?_;simp only[aO]
 repeat((first
    |refine ay (by rfl) (by as_aux_lemma=>intro W g;have e0:=g.cell d0 (λx=>x);have e1:=g.cell d1 (λx=>x);go_simp;exact rfl) ?_
    |refine ah (by rfl) ?_
    |refine aR (by rfl) (by as_aux_lemma=>intro W;go_simp;exact⟨rfl,rfl⟩) (by intro W g;with_reducible first|exact O.out W g|exact E.out W g) ?_);simp only[Act.put,aH])
 intro W2 l;have P:=aa (j.out.trans l);have r:=aa (D.out.kp l (λx=>x));have d2:=l.cell d0 (λx=>x);have Q:=aa (λW (k:Kp ae W2 W)=>E.out W (l.trans k));have Y:=r.out.ai;have Z:=r.out.aj;have x2:=r.out.aq;clear l d0 d1 D c c1;go_wp2_with fail;refine ar 10 (by kernel_rfl) (λ_ _ _ _ _ h=>h) ?_;simp only[aO]
 repeat((first
    |refine ay (by rfl) (by as_aux_lemma=>intro W g;have e0:=g.cell d2 (λx=>x);have e1:=g.cell Y (λx=>x);have e2:=g.cell Z (λx=>x);have ak:=g.cell x2 (λx=>x);go_simp;exact rfl) ?_
    |refine ah (by rfl) ?_
    |refine aR (by rfl) (by as_aux_lemma=>intro W;go_simp;exact⟨rfl,rfl⟩) (by intro W g;with_reducible first|exact Q.out W g) ?_);simp only[Act.put,aH])
 intro W3 F;have G:=aa (P.out.trans F);have H:=aa (af.out.old G.out);clear F d2 Y Z x2;refine ev rfl 230 (.tmp 32) (.tmp 30) rfl H.out.l7 (q*5+2) (Bd x) rfl rfl o3 (by rw[cA c4 5 cI];show q*5+2+3<=_;omega) (by intro v hv;simp only[Bd,Ho,H5,Ia]at hv;rcases hv with rfl|rfl|rfl<;>rfl) ?_;intro W4 s I J;rw[N.out]at s
 have R:=aa (I _ _ _ H.out.top t);have T:=aa s;have U:=aa (J (λb=>b=tb\/b=sb) w (G.out.mono λ_ _ x=>x.elim) (.inl (.inr rfl)));clear s I J;simp only[Act.put];go_wp2_with fail;go_ret;exact⟨rfl,S.set q (some (id,x)),⟨by rw[Hr];exact R.out,T.out⟩,L.out,M.out,U.out⟩
def CZ{w:World}{F:Nat->Prop}{tb room:Nat}{E:List (Nat×Th)}(h:Tf w F tb room E)(id:Nat)(hid:id<4294967296)(x y:Th)(hy:(id,y)∈E):
    Calls Tryz.prog 136 #[.pointer (some ⟨tb,0,none⟩),.int .u32 id,en x] w λe w'=>e=.returned (.bool true)/\Tf w' F tb room (l9 id x E)/\Kp F w w':=by
 obtain⟨sb,S,n,rfl,hm,ok,hp⟩:=h;obtain⟨d,f⟩:=gR.there (hm:=aQ S.length) (λid=>cQ _ _ ok.pw.pos) id ok.free;refine(xw w tb sb S n room hm ok id hid d f y ((f.j7 ok.inv y).2 (hp.mem_iff.2 hy)) x).mono ?_;rintro e w' ⟨he,S',a,b,c,g⟩;exact⟨he,⟨sb,S',n,rfl,a,b,by rw[c];exact hp.map _⟩,g⟩
end flowOwn
end Go.Proofs.YtincjochpkdnfaaGreatDoor
