/- A shaper's Do (layer 26). Printed by wip/shdo.py. -/
import Derived.Test.YtincjochpkdnfaaGreatDoorV25
import Derived.Test.YtincjochpkdnfaaGreatDoorV26
import Derived.Test.YtincjochpkdnfaaGreatDoorV27
import Derived.Test.YtincjochpkdnfaaGreatDoorV28
import Derived.Great.BuildSlice
set_option linter.all false
set_option maxHeartbeats 8000000
set_option maxRecDepth 100000
namespace Go.Proofs.YtincjochpkdnfaaGreatDoor
section
open Go Go.RowKit Go.Shelf
def mE(a:List Value):Prop:=a.length=42/\a.all (·.oneCell')=true
def Ab(k c:Int)(fl id ln r:Nat):mE (gZ k c fl id ln r gF):=⟨rfl,rfl⟩
def pT(s:Sh)(fl id ln:Nat):mE (bQ s fl id ln).1:=by unfold bQ;split<;>exact Ab _ _ _ _ _ _
def vp(s:Sh):mE (bO s).1:=by unfold bO;split;exact Ab _ _ _ _ _ _;split<;>exact Ab _ _ _ _ _ _
def pU{s:Sh}(h:s.ref.length=32):(bZ s).length=36/\(bZ s).all (·.oneCell')=true:=by
 unfold bZ;refine⟨by simp[h],?_⟩;rw[List.all_append,HS];refine⟨rfl,?_⟩;rw[HV];intro v a;obtain⟨n,_,rfl⟩:=Hw.1 a;rfl
def eQ.wrap{w e i j:World}{f:gg}{k:Sh}(m:∀z,f.all z->z<w.heap.size)(b:Kp ae w e)(g:eQ e f k i)(c:Kp (λz=>w.heap.size<=z/\z<e.heap.size) i j):eQ w f k j:=by
 obtain⟨n,hm,o,l,p⟩:=g;have hz:=b.size;refine⟨n,hm.kp c (λz a h=>by rcases l z a with d|d;(have:=m z d;omega);omega),?_,λz a=> ?_,p⟩
 ·exact((b.mono (λ_ _ x=>x.elim)).trans o).then c (λz a h=>by omega)
 ·rcases l z a with d|d
  ·exact .inl d
  ·exact .inr (by omega)
def EC{w:World}{f:gg}{s:Sh}(kind:Int)(fl id ln tk:Nat)(h:et w f s)(hid:fl<4294967296)(a:id<4294967296)(b:ln<18446744073709551616)(c:cq s.bk<9223372036854775807):
    Calls Tryz.prog 78 #[.pointer (some ⟨f.sb,0,none⟩),.agg #[.int .i64 kind,.int .u32 fl,.int .u32 id,.int .u64 ln,.int .u64 tk]] w λe w'=>e=.returned (.agg (bQ s fl id ln).1.toArray)/\eQ w f (bQ s fl id ln).2 w':=by
 by_cases hm:bP s.g fl ln=0
 ·exact B6 kind fl id ln tk h hm hid a b c
 ·exact EA kind fl id ln tk h hm hid a b
def ED{w:World}{f:gg}{s:Sh}(h:et w f s)(a:od w f.all):
    Calls Tryz.prog 79 #[.pointer (some ⟨f.sb,0,none⟩)] w λe w'=>e=.returned (.agg (bO s).1.toArray)/\eQ w f (bO s).2 w':=by
 obtain⟨⟨⟨r,⟨fl,id,ln⟩⟩,is⟩,hp⟩:∃x,aM s.bk=x:=⟨_,rfl⟩
 cases is with
 |false=>exact x3 h a hp
 |true=>
  by_cases b:s.tok<ln
  ·exact x4 h a hp b
  ·exact Cf h a hp b
def EE{w:World}{f:gg}{s:Sh}(kind:Int)(fl id ln tk:Nat)(h:et w f s)(u:fW kind=1)(hid:fl<4294967296)(i:id<4294967296)(v:ln<18446744073709551616)(X:cq s.bk<9223372036854775807):
    Calls Tryz.prog 53 #[.pointer (some ⟨f.sb,0,none⟩),.agg #[.int .i64 kind,.int .u32 fl,.int .u32 id,.int .u64 ln,.int .u64 tk]] w λe w'=>e=.returned (.agg (bQ s fl id ln).1.toArray)/\eQ w f (bQ s fl id ln).2 w':=by
 have Y:=aa (λW (k:et W f s)=>EC kind fl id ln tk k hid i v X);obtain⟨K,m⟩:∃K,bQ s fl id ln=K:=⟨_,rfl⟩
 obtain⟨n,M⟩:mE K.1:=by rw[<-m];exact pT s fl id ln
 rw[m]at Y ⊢
 have y:Hid (∀W,Calls Tryz.prog 77 #[.int .i64 kind] W λe w'=>e=.returned (.int .i64 1)/\W=w'):=aa (λW=>by have:=oy kind W;rw[u]at this;exact this);have Z:=aa h;have ac:Hid (∀z,f.all z->z<w.heap.size):=aa (λz hz=>h.lt hz);obtain⟨t5,x5,gu,ge,gp,N,O⟩:=h.back.c;have ak:=aa N;have P:=h.top.lt;have L:=h.top.bN;rw[N]at L
 refine al ?_;intro PP ad;clear h u N O hid i v X m;obtain⟨sb,o⟩:∃sb,f.sb=sb:=⟨_,rfl⟩
 rw[o]at P L ⊢
 have Q:=aa o;clear o;have A:=ag.new w [.int .i64 kind,.int .u32 fl,.int .u32 id,.int .u64 ln,.int .u64 tk] 153;have B:=aa A;have p:=ag.new (w.alloc (.cells #[.int .i64 kind,.int .u32 fl,.int .u32 id,.int .u64 ln,.int .u64 tk] 153)) G9 150;have e1:(w.alloc (.cells #[.int .i64 kind,.int .u32 fl,.int .u32 id,.int .u64 ln,.int .u64 tk] 153)).heap.size=w.heap.size+1:=by simp
 rw[e1]at p
 have C:=aa p;have q:=ag.new ((w.alloc (.cells #[.int .i64 kind,.int .u32 fl,.int .u32 id,.int .u64 ln,.int .u64 tk] 153)).alloc (.cells G8 150)) G9 150;have e2:((w.alloc (.cells #[.int .i64 kind,.int .u32 fl,.int .u32 id,.int .u64 ln,.int .u64 tk] 153)).alloc (.cells G8 150)).heap.size=w.heap.size+2:=by simp
 rw[e2]at q
 have D:=aa q;have E:=aa ((((Kp.refl ae w).alloc (.cells #[.int .i64 kind,.int .u32 fl,.int .u32 id,.int .u64 ln,.int .u64 tk] 153)).alloc (.cells G8 150)).alloc (.cells G8 150));clear p q e1 e2 A;go_enter Tryz.func53,Tryz.ntmps53;go_wp2_with fail;refine(y.out _).mono ?_;rintro e w' ⟨rfl,rfl⟩
 go_wp2_with(first
    |(refine aW rfl 150 (.tmp 5) (.tmp 9) rfl D.out [.int .i64 1,.int .i64 0,.int .u32 0,.int .u32 0,.int .u64 0,.int .u64 0,.int .u64 0,.int .u64 0,.int .i64 0,.int .u64 0,.int .u64 0,.int .u64 0,.int .u64 0,.int .u64 0,.int .u64 0,.int .u64 0,.int .u64 0,.int .u64 0,.int .u64 0,.int .u64 0,.int .u64 0,.int .u64 0,.int .u64 0,.int .u64 0,.int .u64 0,.int .u64 0,.int .u64 0,.int .u64 0,.int .u64 0,.int .u64 0,.int .u64 0,.int .u64 0,.int .u64 0,.int .u64 0,.int .u64 0,.int .u64 0,.int .u64 0,.int .u64 0,.int .u64 0,.int .u64 0,.int .u64 0,.int .u64 0] rfl rfl rfl bj rfl ?_
      intro W2 F G;have H:=aa F;have d:=aa G;clear F G;have g:Kp ae w W2:=E.out.then d.out (λb hb e=>by omega);have R:=aa ((C.out.alloc (.cells G8 150)).kp d.out (λe=>by omega));have a:=aa (((B.out.alloc (.cells G8 150)).alloc (.cells G8 150)).kp d.out (λe=>by omega));have S:=aa g;have d5:=g.cell L (λx=>x);have T:=aa (Z.out.old g);have af:=H.out.lt;have b0:=H.out.ai;have o0:=a.out.ai;have o1:=a.out.aj;have o2:=a.out.aq;have o3:=a.out.aK;have o4:=a.out.a_
      clear C D B E d y Z g L))
 have r:=Y.out W2 T.out;rw[Q.out]at r
 refine r.mono ?_;rintro e W3 ⟨rfl,t⟩;have U:=aa t;have V:Hid (ag W3 (w.heap.size+1) G9 150):=by
  obtain⟨f',_,k3,_,_⟩:=t;exact aa (R.out.kp k3 (λe=>by have:=ac.out _ e;omega))
 clear t r
 go_wp2_with(first
    |(refine aW rfl 150 (.tmp 4) (.tmp 30) rfl V.out K.1 (by rw[n];rfl) rfl rfl (by rw[n];exact bj) M ?_
      intro ah j l;have I:=aa j;have J:=aa l
      clear j l))
 refine dk (by exact rfl) I.out _ Tryz.underlying150 rfl (by rw[n];exact bj) (by exact rfl) (ad.out _ _ ⟨rfl,eQ.wrap ac.out S.out U.out (J.out.mono (λz _ e=>by omega))⟩)
def EF{w:World}{f:gg}{s:Sh}(kind:Int)(fl id ln tk:Nat)(h:et w f s)(t:fW kind=2)(j:od w f.all):
    Calls Tryz.prog 53 #[.pointer (some ⟨f.sb,0,none⟩),.agg #[.int .i64 kind,.int .u32 fl,.int .u32 id,.int .u64 ln,.int .u64 tk]] w λe w'=>e=.returned (.agg (bO s).1.toArray)/\eQ w f (bO s).2 w':=by
 have U:=aa (λW (k:et W f s) (kk:Kp ae w W)=>ED k ⟨j.tab.kp kk (λx=>x),j.ne⟩);obtain⟨J,l⟩:∃J,bO s=J:=⟨_,rfl⟩
 obtain⟨m,L⟩:mE J.1:=by rw[<-l];exact vp s
 rw[l]at U ⊢
 have u:Hid (∀W,Calls Tryz.prog 77 #[.int .i64 kind] W λe w'=>e=.returned (.int .i64 2)/\W=w'):=aa (λW=>by have:=oy kind W;rw[t]at this;exact this);have V:=aa h;have X:Hid (∀z,f.all z->z<w.heap.size):=aa (λz hz=>h.lt hz);obtain⟨t5,x5,gu,ge,gp,M,N⟩:=h.back.c;have aj:=aa M;have O:=h.top.lt;have K:=h.top.bN;rw[M]at K
 refine al ?_;intro PP ac;clear h t M N j l;obtain⟨sb,n⟩:∃sb,f.sb=sb:=⟨_,rfl⟩
 rw[n]at O K ⊢
 have P:=aa n;clear n;have v:=ag.new w [.int .i64 kind,.int .u32 fl,.int .u32 id,.int .u64 ln,.int .u64 tk] 153;have y:=aa v;have o:=ag.new (w.alloc (.cells #[.int .i64 kind,.int .u32 fl,.int .u32 id,.int .u64 ln,.int .u64 tk] 153)) G9 150;have Y:(w.alloc (.cells #[.int .i64 kind,.int .u32 fl,.int .u32 id,.int .u64 ln,.int .u64 tk] 153)).heap.size=w.heap.size+1:=by simp
 rw[Y]at o
 have A:=aa o;have p:=ag.new ((w.alloc (.cells #[.int .i64 kind,.int .u32 fl,.int .u32 id,.int .u64 ln,.int .u64 tk] 153)).alloc (.cells G8 150)) G9 150;have Z:((w.alloc (.cells #[.int .i64 kind,.int .u32 fl,.int .u32 id,.int .u64 ln,.int .u64 tk] 153)).alloc (.cells G8 150)).heap.size=w.heap.size+2:=by simp
 rw[Z]at p
 have B:=aa p;have C:=aa ((((Kp.refl ae w).alloc (.cells #[.int .i64 kind,.int .u32 fl,.int .u32 id,.int .u64 ln,.int .u64 tk] 153)).alloc (.cells G8 150)).alloc (.cells G8 150));clear o p Y Z v;go_enter Tryz.func53,Tryz.ntmps53;go_wp2_with fail;refine(u.out _).mono ?_;rintro e w' ⟨rfl,rfl⟩
 go_wp2_with(first
    |(refine aW rfl 150 (.tmp 5) (.tmp 9) rfl B.out G_ rfl rfl rfl bj rfl ?_
      intro W2 D E;have F:=aa D;have a:=aa E;clear D E;have d:Kp ae w W2:=C.out.then a.out (λb hb e=>by omega);have Q:=aa ((A.out.alloc (.cells G8 150)).kp a.out (λe=>by omega));have ad:=aa (((y.out.alloc (.cells G8 150)).alloc (.cells G8 150)).kp a.out (λe=>by omega));have G:=aa d;have d5:=d.cell K (λx=>x);have R:=aa (V.out.old d);have af:=F.out.lt;have b0:=F.out.ai
      skip
      clear A B y C a u V d K))
 have q:=U.out W2 R.out G.out;rw[P.out]at q
 refine q.mono ?_;rintro e W3 ⟨rfl,r⟩;have S:=aa r;have T:Hid (ag W3 (w.heap.size+1) G9 150):=by
  obtain⟨f',_,k3,_,_⟩:=r;exact aa (Q.out.kp k3 (λe=>by have:=X.out _ e;omega))
 clear r q
 go_wp2_with(first
    |(refine aW rfl 150 (.tmp 4) (.tmp 34) rfl T.out J.1 (by rw[m];rfl) rfl rfl (by rw[m];exact bj) L ?_
      intro ah g i;have H:=aa g;have I:=aa i
      clear g i))
 refine dk (by exact rfl) H.out _ Tryz.underlying150 rfl (by rw[m];exact bj) (by exact rfl) (ac.out _ _ ⟨rfl,eQ.wrap X.out G.out S.out (I.out.mono (λz _ e=>by omega))⟩)
def nm{P:Program}{ops:Array Oper}{rest:List Oper}{op:Oper}{a:Act}{Q:Exit->Act->World->Prop}(e:op.guard=none)(ty:TypeId)(x y:Operand)(i:op.op=.store ty x y){w:World}{b:Nat}{cs:List Value}{t:TypeId}(f:ag w b cs t)(o:Nat)(c:List Value)(k:o+c.length=cs.length)
    (l:a.eval x=.pointer (some ⟨b,o,none⟩)) (hy:a.eval y=.agg c.toArray) (d:(P.info? ty).map (·.size)=some c.length) (m:c.all (·.oneCell')=true)
    (h:∀g,ag g b (cs.take o++c) t->Kp (λz=>z=b) w g->wpList P ops Q rest (a.put op.dst undef) g):wpList P ops Q (op::rest) a w:=by
 refine wpList_store_mid e ty x y i b o c.toArray l hy ?_ (by rw[HY];exact d) (by simpa using m) ?_
 ·intro j n;rw[HY]at n
  refine⟨?_,f.fz _⟩;rw[f.cell (o+j) (Hn (by omega))];rfl
 ·refine h _ ?_ (eE (S:=λz=>z=b) (.inl rfl) _ _ _ (Kp.refl _ _));have:=f.setCells c o;rw[jA c o cs k]at this
  exact this
def Ac{w:World}{f:gg}{s:Sh}(kind:Int)(fl id ln tk:Nat)(h:et w f s)(y:fW kind=4):
    Calls Tryz.prog 53 #[.pointer (some ⟨f.sb,0,none⟩),.agg #[.int .i64 kind,.int .u32 fl,.int .u32 id,.int .u64 ln,.int .u64 tk]] w λe w'=>e=.returned (.agg ((gZ 4 0 0 0 0 0 (bZ s),s)).1.toArray)/\eQ w f ((gZ 4 0 0 0 0 0 (bZ s),s)).2 w':=by
 obtain⟨d,a⟩:=pU h.ok.len;have A:=aa (λW (k:et W f s)=>Ch k);obtain⟨n,B⟩:∃n,bZ s=n:=⟨_,rfl⟩
 rw[B]at d a A ⊢
 have C:Hid (∀W,Calls Tryz.prog 77 #[.int .i64 kind] W λe w'=>e=.returned (.int .i64 4)/\W=w'):=aa (λW=>by have:=oy kind W;rw[y]at this;exact this);have aj:=aa h;have ak:Hid (∀z,f.all z->z<w.heap.size):=aa (λz hz=>h.lt hz);obtain⟨t5,x5,gu,ge,gp,D,R⟩:=h.back.c;have au:=aa D;have S:=h.top.lt;have Q:=h.top.bN;rw[D]at Q
 refine al ?_;intro PP an;clear h y D R B;obtain⟨sb,o⟩:∃sb,f.sb=sb:=⟨_,rfl⟩
 rw[o]at S Q ⊢
 have T:=aa o;clear o;have E:=ag.new w [.int .i64 kind,.int .u32 fl,.int .u32 id,.int .u64 ln,.int .u64 tk] 153;have F:=aa E;have p:=ag.new (w.alloc (.cells #[.int .i64 kind,.int .u32 fl,.int .u32 id,.int .u64 ln,.int .u64 tk] 153)) G9 150;have e1:(w.alloc (.cells #[.int .i64 kind,.int .u32 fl,.int .u32 id,.int .u64 ln,.int .u64 tk] 153)).heap.size=w.heap.size+1:=by simp
 rw[e1]at p
 have G:=aa p;have q:=ag.new ((w.alloc (.cells #[.int .i64 kind,.int .u32 fl,.int .u32 id,.int .u64 ln,.int .u64 tk] 153)).alloc (.cells G8 150)) G9 150;have e2:((w.alloc (.cells #[.int .i64 kind,.int .u32 fl,.int .u32 id,.int .u64 ln,.int .u64 tk] 153)).alloc (.cells G8 150)).heap.size=w.heap.size+2:=by simp
 rw[e2]at q
 have H:=aa q;have I:=aa ((((Kp.refl ae w).alloc (.cells #[.int .i64 kind,.int .u32 fl,.int .u32 id,.int .u64 ln,.int .u64 tk] 153)).alloc (.cells G8 150)).alloc (.cells G8 150));clear p q e1 e2 E;go_enter Tryz.func53,Tryz.ntmps53;go_wp2_with fail;refine(C.out _).mono ?_;rintro e w' ⟨rfl,rfl⟩
 go_wp2_with(first
    |(refine aW rfl 150 (.tmp 5) (.tmp 9) rfl H.out Ha rfl rfl rfl bj rfl ?_
      intro U J K;have r:=aa J;have g:=aa K;clear J K;have i:Kp ae w U:=I.out.then g.out (λb hb e=>by omega);have V:=aa ((G.out.alloc (.cells G8 150)).kp g.out (λe=>by omega));have ao:=aa (((F.out.alloc (.cells G8 150)).alloc (.cells G8 150)).kp g.out (λe=>by omega));have X:=aa i;have d5:=i.cell Q (λx=>x);have L:=aa (aj.out.old i);have aq:=r.out.lt;have b0:=r.out.ai
      skip
      clear G H F I g C aj i Q))
 have t:=A.out U L.out;rw[T.out]at t
 refine t.mono ?_;rintro e W3 ⟨rfl,k3⟩;have Y:=aa (r.out.kp k3 (λx=>x));have Z:=aa (V.out.kp k3 (λx=>x));have ac:Hid (eQ U f s W3):=aa ⟨f,L.out.old k3,k3.mono (λz _ h=>h.elim),Nw.refl _ _,rfl⟩;have hlen:((Ha:List Value).take 6++n).length=42:=by rw[HK,d];rfl
 have M:((Ha:List Value).take 6++n).all (·.oneCell')=true:=by rw[List.all_append,a];rfl
 clear t k3 b0
 go_wp2_with(first
    |(refine nm rfl 56 (.tmp 61) (.tmp 60) rfl Y.out 6 n (by rw[d];rfl) rfl rfl (by rw[d];exact pQ) a ?_
      intro W4 N u;have ad:=aa N;have af:=aa (Z.out.kp u (λe=>by omega));have ah:=aa u
      clear N u)
    |(refine wpList_load_mid rfl 150 (.tmp 5) rfl (w.heap.size+2) 0 rfl ((Ha:List Value).take 6++n) _ (λj v D=>by rw[HR];exact ad.out.cell j D) Tryz.underlying150 rfl (by rw[hlen];exact bj) ?_)
    |(refine aW rfl 150 (.tmp 4) (.tmp 67) rfl af.out ((Ha:List Value).take 6++n) (by rw[hlen];rfl) rfl rfl (by rw[hlen];exact bj) M ?_
      intro ar l m;have O:=aa l;have P:=aa m
      clear l m))
 refine dk (by exact rfl) O.out _ Tryz.underlying150 rfl (by rw[hlen];exact bj) (by exact rfl) (an.out _ _ ⟨rfl,eQ.wrap ak.out X.out ac.out ((ah.out.mono (λz _ e=>by omega)).trans (P.out.mono (λz _ e=>by omega)))⟩)
def Cn{w:World}{f:gg}{s:Sh}(kind:Int)(fl id ln tk:Nat)(h:et w f s)(ac:fW kind=3)(M:tk<18446744073709551616):
    Calls Tryz.prog 53 #[.pointer (some ⟨f.sb,0,none⟩),.agg #[.int .i64 kind,.int .u32 fl,.int .u32 id,.int .u64 ln,.int .u64 tk]] w λe w'=>e=.returned (.agg ((gZ 3 0 0 0 0 0 gF,{s with now:=cH s.now tk,tok:=kd s.ax s.aP s.tok tk})).1.toArray)/\eQ w f ((gZ 3 0 0 0 0 0 gF,{s with now:=cH s.now tk,tok:=kd s.ax s.aP s.tok tk})).2 w':=by
 have r:Hid (∀W,Calls Tryz.prog 56 #[.int .u64 s.now,.int .u64 tk] W λe w'=>e=.returned (.int .u64 (cH s.now tk))/\Kp ae W w'):=aa (λW=>(sT s.now tk h.ok.now M W).mono λe w' h=>⟨h.1,h.2▸Kp.refl ae _⟩);have N:=aa (λW=>DF s.ax s.aP s.tok tk h.ok.ax.1 h.ok.aP.1 h.ok.tok h.ok.ax.2 h.ok.aP.2 M W);have J:Hid ({s with now:=cH s.now tk,tok:=kd s.ax s.aP s.tok tk}:Sh).Ok:=aa {h.ok with now:=j3 _ _,tok:=Nat.min_le_right _ _};obtain⟨a,t⟩:∃x,cH s.now tk=x:=⟨_,rfl⟩
 obtain⟨g,u⟩:∃x,kd s.ax s.aP s.tok tk=x:=⟨_,rfl⟩
 simp only[t,u]at r N J ⊢;have l:=h.top;unfold h8 at l;obtain⟨ax,i⟩:∃x,s.ax=x:=⟨_,rfl⟩
 obtain⟨aP,d⟩:∃x,s.aP=x:=⟨_,rfl⟩
 obtain⟨tok,y⟩:∃x,s.tok=x:=⟨_,rfl⟩
 obtain⟨now,A⟩:∃x,s.now=x:=⟨_,rfl⟩
 rw[i,d,y,A]at l
 rw[i,d,y]at N
 rw[A]at r
 have aN:Hid (h8 ({s with now:=a,tok:=g}:Sh) f=[.pointer (some ⟨f.gb,0,none⟩),.pointer (some ⟨f.rb,0,none⟩),.int .u64 ax,.int .u64 aP,.int .u64 g,f.v,.int .u64 a]++s.ref.map e0):=aa (by rw[<-i,<-d];rfl);have ad:=aa l;have af:Hid (∀W,Calls Tryz.prog 77 #[.int .i64 kind] W λe w'=>e=.returned (.int .i64 3)/\W=w'):=aa (λW=>by have:=oy kind W;rw[ac]at this;exact this);have a2:=aa h;have a3:Hid (∀z,f.all z->z<w.heap.size):=aa (λz hz=>h.lt hz);obtain⟨t5,x5,gu,ge,gp,hv,aQ⟩:=h.back.c;have a7:=aa hv;have aS:=h.top.lt;have c5:=h.top.bN;rw[hv]at c5
 refine al ?_;intro PP a4;clear h ac hv aQ i d y A t u l M;obtain⟨sb,O⟩:∃sb,f.sb=sb:=⟨_,rfl⟩
 rw[O]at aS c5 ⊢
 have m:=aa O;clear O;have aj:=ag.new w [.int .i64 kind,.int .u32 fl,.int .u32 id,.int .u64 ln,.int .u64 tk] 153;have ak:=aa aj;have P:=ag.new (w.alloc (.cells #[.int .i64 kind,.int .u32 fl,.int .u32 id,.int .u64 ln,.int .u64 tk] 153)) G9 150;have e1:(w.alloc (.cells #[.int .i64 kind,.int .u32 fl,.int .u32 id,.int .u64 ln,.int .u64 tk] 153)).heap.size=w.heap.size+1:=by simp
 rw[e1]at P
 have an:=aa P;have Q:=ag.new ((w.alloc (.cells #[.int .i64 kind,.int .u32 fl,.int .u32 id,.int .u64 ln,.int .u64 tk] 153)).alloc (.cells G8 150)) G9 150;have Y:((w.alloc (.cells #[.int .i64 kind,.int .u32 fl,.int .u32 id,.int .u64 ln,.int .u64 tk] 153)).alloc (.cells G8 150)).heap.size=w.heap.size+2:=by simp
 rw[Y]at Q
 have ao:=aa Q;have au:=aa ((((Kp.refl ae w).alloc (.cells #[.int .i64 kind,.int .u32 fl,.int .u32 id,.int .u64 ln,.int .u64 tk] 153)).alloc (.cells G8 150)).alloc (.cells G8 150));clear P Q e1 Y aj;go_enter Tryz.func53,Tryz.ntmps53;go_wp2_with fail;refine(af.out _).mono ?_;rintro e w' ⟨rfl,rfl⟩
 go_wp2_with(first
    |(refine aW rfl 150 (.tmp 5) (.tmp 9) rfl ao.out Hb rfl rfl rfl bj rfl ?_
      intro W2 av aw;have E:=aa av;have F:=aa aw;clear av aw;have B:Kp ae w W2:=au.out.then F.out (λb Z e=>by omega);have az:=aa ((an.out.alloc (.cells G8 150)).kp F.out (λe=>by omega));have R:=aa (((ak.out.alloc (.cells G8 150)).alloc (.cells G8 150)).kp F.out (λe=>by omega));have aT:=aa B;have d5:=B.cell c5 (λx=>x);have aU:=aa (a2.out.old B);have a5:=E.out.lt;have b0:=E.out.ai;have aA:=ad.out.kp B (λx=>x);rw[m.out]at aA
      have S:=aa aA;have d6:=S.out.du;have o4:=R.out.a_
      clear an ao ak au F af a2 B c5))
 refine ar 10 (by kernel_rfl) (λ_ _ _ _ _ h=>h) ?_;simp only[aO]
 repeat((first
    |refine ay (by rfl) (by as_aux_lemma=>intro W G;have a8:=G.cell d6 (λx=>x);have e1:=G.cell o4 (λx=>x);go_simp;exact rfl) ?_
    |refine ah (by rfl) ?_
    |refine aR (by rfl) (by as_aux_lemma=>intro W;go_simp;exact⟨rfl,rfl⟩) (by intro W G;with_reducible first|exact r.out W) ?_);simp only[Act.put,aH])
 intro W3 n;have H:=aa (S.out.kp n (λx=>x));have aB:=aa (R.out.kp n (λx=>x));have aC:=aa (E.out.kp n (λx=>x));have aD:=aa (az.out.kp n (λx=>x));have aE:=aa n;have d6:=H.out.du;have dz:=H.out.fz 6;clear n;go_upto_region 13 with fail;have T:=H.out.set 6 (.int .u64 a);have o:Kp (λz=>z=sb) W3 (W3.setCell ⟨sb,6,none⟩ (.int .u64 a)):=(Kp.refl (λz=>z=sb) W3).set (p:=⟨sb,6,none⟩) (.inl rfl) _;obtain⟨W4,aF⟩:∃W4,W3.setCell ⟨sb,6,none⟩ (.int .u64 a)=W4:=⟨_,rfl⟩
 rw[aF]at T o ⊢
 have I:Hid (ag W4 sb ([.pointer (some ⟨f.gb,0,none⟩),.pointer (some ⟨f.rb,0,none⟩),.int .u64 ax,.int .u64 aP,.int .u64 tok,f.v,.int .u64 a]++s.ref.map e0) 174):=aa T;have aV:=aa (aB.out.kp o (λe=>by omega));have U:=aa (aC.out.kp o (λe=>by omega));have V:=aa (aD.out.kp o (λe=>by omega));have aX:Hid (Kp (λz=>z=sb) W2 W4):=aa ((aE.out.mono (λ_ _ x=>x.elim)).trans o);have Y:=I.out.aq;have e3:=I.out.aK;have e4:=I.out.a_;have o4:=aV.out.a_;clear aF T o d6 dz H aB aC aD aE S R E az;go_wp2_with fail;refine ar 10 (by kernel_rfl) (λ_ _ _ _ _ h=>h) ?_;simp only[aO]
 repeat((first
    |refine ay (by rfl) (by as_aux_lemma=>intro W G;have q2:=G.cell Y (λx=>x);have q3:=G.cell e3 (λx=>x);have q4:=G.cell e4 (λx=>x);have q5:=G.cell o4 (λx=>x);go_simp;exact rfl) ?_
    |refine ah (by rfl) ?_
    |refine aR (by rfl) (by as_aux_lemma=>intro W;go_simp;exact⟨rfl,rfl⟩) (by intro W G;with_reducible first|exact N.out W) ?_);simp only[Act.put,aH])
 intro W5 C;have q:=aa (I.out.kp C (λx=>x));have aG:=aa (U.out.kp C (λx=>x));have aI:=aa (V.out.kp C (λx=>x));have aY:Hid (Kp (λz=>z=sb) W2 W5):=aa (aX.out.trans (C.mono (λ_ _ x=>x.elim)));have Y:=q.out.aq;have e3:=q.out.aK;have e4:=q.out.a_;have ez:=λj=>q.out.fz j;clear C o4;go_upto_region 18 with fail;have X:=((q.out.set 2 (.int .u64 ax)).set 3 (.int .u64 aP)).set 4 (.int .u64 g);have D:Kp (λz=>z=sb) W5 (((W5.setCell ⟨sb,2,none⟩ (.int .u64 ax)).setCell ⟨sb,3,none⟩ (.int .u64 aP)).setCell ⟨sb,4,none⟩ (.int .u64 g)):=(((Kp.refl (λz=>z=sb) W5).set (p:=⟨sb,2,none⟩) (.inl rfl) _).set (p:=⟨sb,3,none⟩) (.inl rfl) _).set (p:=⟨sb,4,none⟩) (.inl rfl) _;obtain⟨W6,aJ⟩:∃W6,((W5.setCell ⟨sb,2,none⟩ (.int .u64 ax)).setCell ⟨sb,3,none⟩ (.int .u64 aP)).setCell ⟨sb,4,none⟩ (.int .u64 g)=W6:=⟨_,rfl⟩
 rw[aJ]at X D ⊢
 have aZ:Hid (ag W6 sb ([.pointer (some ⟨f.gb,0,none⟩),.pointer (some ⟨f.rb,0,none⟩),.int .u64 ax,.int .u64 aP,.int .u64 g,f.v,.int .u64 a]++s.ref.map e0) 174):=aa X;have U:=aa (aG.out.kp D (λe=>by omega));have V:=aa (aI.out.kp D (λe=>by omega));have a0:Hid (Kp (λz=>z=sb) W2 W6):=aa (aY.out.trans D);have a1:Hid (eQ W2 f ({s with now:=a,tok:=g}:Sh) W6):=by
  have hm:=aU.out;have k:=a0.out;refine aa ⟨f,{hm with top:= ?_,gate:=hm.gate.kp k (λb Z e=>hm.sg (by rw[m.out,<-e];exact Z)),ranks:=hm.ranks.kp k (λb Z e=>hm.sr (by rw[m.out,<-e];exact Z)),back:=hm.back.kp k (λb Z e=>hm.sk (by rw[m.out,<-e];exact Z)),ok:=J.out},k.mono (λz _ e=>.inl (by rw[m.out];exact e)),Nw.refl _ _,rfl⟩;rw[aN.out,m.out];exact aZ.out
 clear aJ X D Y e3 e4 ez q aG aI
 go_wp2_with(first
    |(refine wpList_load_mid rfl 150 (.tmp 5) rfl (w.heap.size+2) 0 rfl Hb _ (λj v hv=>by rw[HR];exact U.out.cell j hv) Tryz.underlying150 rfl bj ?_)
    |(refine aW rfl 150 (.tmp 4) (.tmp 67) rfl V.out Hb rfl rfl rfl bj rfl ?_
      intro a6 K L;have aL:=aa K;have aM:=aa L
      clear K L))
 refine dk (by exact rfl) aL.out _ Tryz.underlying150 rfl bj (by exact rfl) (a4.out _ _ ⟨rfl,eQ.wrap a3.out aT.out a1.out (aM.out.mono (λz _ e=>by omega))⟩)
def jG{w:World}{f:gg}{s:Sh}(o:kW)(c:o.kind=1\/o.kind=2\/o.kind=3\/o.kind=4)(h:et w f s)(b:o.kind=2->od w f.all)(a:o.ok)(d:cq s.bk<9223372036854775807):
    Calls Tryz.prog 53 #[.pointer (some ⟨f.sb,0,none⟩),.agg (p8 o).toArray] w λe w'=>e=.returned (.agg (h9 s o).1.toArray)/\eQ w f (h9 s o).2 w':=by
 obtain⟨kind,fl,id,ln,tk⟩:=o;show Calls Tryz.prog 53 #[.pointer (some ⟨f.sb,0,none⟩),.agg #[.int .i64 kind,.int .u32 fl,.int .u32 id,.int .u64 ln,.int .u64 tk]] w _;simp only at c;rcases c with rfl|rfl|rfl|rfl
 ·exact EE 1 fl id ln tk h rfl a.cE a.id a.len d
 ·exact EF 2 fl id ln tk h rfl (b rfl)
 ·exact Cn 3 fl id ln tk h rfl a.fC
 ·exact Ac 4 fl id ln tk h rfl
end
section
open Go Go.RowKit Go.Shelf Go.Maps
def oz{S:Nat->Prop}{w w':World}{P:Program}{k:TypeId}{R:Value->Option (DataW Unit×List MemPlace)}{b n:Nat}{D:DataW Unit}(h:w.ownsMap P k R b n D)(k':Kp S w w')(d:¬S b):w'.ownsMap P k R b n D:=by
 obtain⟨es,clock,c,F,a,e⟩:=h;exact⟨es,clock,(k'.block b (Ih.1 c).1 d).trans c,F,a,e⟩
abbrev kU(x:Int):Lit:=.int .u32 x
structure dy where
 pb:Nat
 mb:Nat
 tb:Nat
 lo:Nat
 hi:Nat
 sf:gg
def dy.all(f:dy):Nat->Prop:=λb=>b=f.pb\/b=f.mb\/f.sf.all b
def fY(p:Po)(f:dy):List Value:=[.pointer (some ⟨f.sf.sb,0,none⟩),.pointer (some ⟨f.tb,0,none⟩),.int .u64 p.m.ax,.int .u64 p.m.bD,.int .u64 p.m.aJ,.int .u64 p.m.a,.int .u64 p.m.b,.int .u8 p.y,.map (some f.mb),.int .u32 p.num]
structure Po.Ok (p:Po):Prop where
 oe:∀r∈p.rl,r.Ok
 dr:eY p.rl=0
 qf:p.m.Ok
 y:p.y<=63
 num:p.num<4294967296
 wl:∀b,(p.wt b).length<=100000
structure jS (w:World) (mb num:Nat) (wt:Nat->List UInt8):Prop where
 is:∃n D,w.ownsMap Tryz.prog 40 (plainElem (H:=Unit) Tryz.prog 9) mb n D/\n<=num/\∀b:Nat,b<4294967296->D.atKey (kU b) (.lit (.string []))=.lit (.string (wt b))
def jS.kp{T:Nat->Prop}{w w':World}{mb num:Nat}{wt:Nat->List UInt8}(h:jS w mb num wt)(k:Kp T w w')(a:¬T mb):jS w' mb num wt:=by
 obtain⟨n,D,b,c⟩:=h.is;exact⟨n,D,oz b k a,c⟩
def jS.lt{w:World}{mb num:Nat}{wt:Nat->List UInt8}(h:jS w mb num wt):mb<w.heap.size:=by
 obtain⟨n,D,a,_⟩:=h.is;exact a.lt
def EG{x:Nat}(h:x<4294967296):(Lit.int .u32 (x:Int)).wf=true:=by simp[Lit.wf,IntKind.min,IntKind.max,IntKind.signed,IntKind.bits];omega
def oA(x:Nat)(h:x<4294967296):keyOf Tryz.prog 40 (.int .u32 (x:Int))=some (kU x):=keyOf_int_mk Tryz.underlying40 (EG h)
def Co(x:Int):WideAt.IsKeyLit (kU x):=by simp[WideAt.IsKeyLit,kU]
def nn(x:ByteArray)(h:x.size<=1000000):plainElem (H:=Unit) Tryz.prog 9 (.string x)=some (.lit (.string (bl x)),[]):=plainElem_string Tryz.underlying9 (by unfold maxLen;omega)
def jS.look{w:World}{mb num:Nat}{wt:Nat->List UInt8}(h:jS w mb num wt)(id:Nat)(hid:id<4294967296):
    ∀W,Kp ae w W->(Instr.lookup 117 (.map (some mb)) (.int .u32 (id:Int)) false).run Tryz.prog W=.ok (.string (tx (wt id))) W:=λW k=>by
 obtain⟨n,D,c,_,d⟩:=h.is;obtain⟨v,j,a,e⟩:=(oz c k (λx=>x)).lookup (int_keyed Tryz.underlying40) Tryz.underlying117 (Tryz.zeroValue9 W) (nn ⟨#[]⟩ (by decide)) (oA id hid);obtain⟨s,rfl,b,_⟩:=plainElem_string_inv Tryz.underlying9 e;have f:=d id hid;have g:bl (⟨#[]⟩:ByteArray)=[]:=rfl;rw[g,f]at b
 have i:wt id=s.data.toList:=by
  have:=HC Prod.fst b;simpa using this
 rw[a,i];exact HC (λx=>Result.ok (Value.string x) W) (Dm s).symm
def jS.put{w w':World}{mb num n:Nat}{wt:Nat->List UInt8}{D:DataW Unit}(a:w.ownsMap Tryz.prog 40 (plainElem (H:=Unit) Tryz.prog 9) mb n D)(c:∀b:Nat,b<4294967296->D.atKey (kU b) (.lit (.string []))=.lit (.string (wt b)))(g:n<=num)(id:Nat)(x:List UInt8)
    (h:w'.ownsMap Tryz.prog 40 (plainElem (H:=Unit) Tryz.prog 9) mb (n+1) (D.put (kU id) (.lit (.string x)))):jS w' mb (num+1) (λk=>if k=id then x else wt k):=by
 refine⟨n+1,_,h,by omega,λb d=> ?_⟩;by_cases e:b=id
 ·subst e;rw[Hl rfl];exact atKey_put_same a.isMap (Co _) _ _
 ·rw[Hk e,atKey_put_other (λf=>e (by simp[kU]at f;omega)),c b d]
def jS.del{w w':World}{mb num n:Nat}{wt:Nat->List UInt8}{D:DataW Unit}(a:∀b:Nat,b<4294967296->D.atKey (kU b) (.lit (.string []))=.lit (.string (wt b)))(c:n<=num)(id:Nat)
    (h:w'.ownsMap Tryz.prog 40 (plainElem (H:=Unit) Tryz.prog 9) mb n (D.del (kU id))):jS w' mb num (λk=>if k=id then[]else wt k):=by
 refine⟨n,_,h,c,λb d=> ?_⟩;by_cases e:b=id
 ·subst e;rw[Hl rfl];exact atKey_del_same _
 ·rw[Hk e,atKey_del_other (λf=>e (by simp[kU]at f;omega)),a b d]
structure cW (w:World) (f:dy) (p:Po):Prop where
 top:ag w f.pb (fY p f) 123
 sh:et w f.sf p.s
 ru:vn w f.lo f.hi f.tb p.rl
 mp:jS w f.mb p.num p.wt
 n1:f.pb≠f.mb
 n2:¬f.sf.all f.pb
 n3:¬f.sf.all f.mb
 n4:¬(f.lo<=f.pb/\f.pb<f.hi)
 n5:¬(f.lo<=f.mb/\f.mb<f.hi)
 n6:∀b,f.sf.all b->¬(f.lo<=b/\b<f.hi)
 hi:f.hi<=w.heap.size
 ok:p.Ok
def cW.kp{T:Nat->Prop}{w w':World}{f:dy}{p:Po}(h:cW w f p)(k:Kp T w w')(a:∀b,f.all b->¬T b)(c:∀b,f.lo<=b->b<f.hi->¬T b):cW w' f p:=
 {h with top:=h.top.kp k (a _ (.inl rfl)),sh:=h.sh.kp k (λb d=>a b (.inr (.inr d))),ru:=h.ru.kp k c,mp:=h.mp.kp k (a _ (.inr (.inl rfl))),hi:=Hy h.hi k.size}
def cW.old{w w':World}{f:dy}{p:Po}(h:cW w f p)(k:Kp ae w w'):cW w' f p:=h.kp k (λ_ _ x=>x) (λ_ _ _ x=>x)
def cW.lt{w:World}{f:dy}{p:Po}(h:cW w f p){b:Nat}(a:f.all b):b<w.heap.size:=by
 rcases a with rfl|rfl|a
 ·exact h.top.lt
 ·exact h.mp.lt
 ·exact h.sh.lt a
abbrev fZ(w:World)(f:dy)(b:Po)(w':World):Prop:=∃a,cW w' a b/\Kp f.all w w'/\Nw w f.all a.all/\a.pb=f.pb/\a.lo=f.lo/\a.hi=f.hi
def kn(p:Po)(n:Nat):Prop:=∀(w:World) (f:dy),ag w f.pb (fY p f) 123->Calls Tryz.prog 59 #[.pointer (some ⟨f.pb,0,none⟩),.int .u64 n] w λe w'=>e=.returned (.int .i64 (cZ p.m n).2)/\ag w' f.pb (fY {p with m:=(cZ p.m n).1} f) 123/\Kp (λb=>b=f.pb) w w'
def jH(pc:jC):Mt:=if pc.ax=0 then Mt.zero else⟨pc.ax,pc.bD,pc.aJ,pc.bD,pc.aJ⟩
def dZ(pc:jC)(st:fy):Po:=⟨jz pc.c st,pc.rl,jH pc,pc.y,λ_=>[],0⟩
def Cp(w:World):jS (w.alloc (.map #[] 0)) w.heap.size 0 (λ_=>[]):=⟨0,.map [],World.ownsMap_made w _ _ _,Hm _,λ_ _=>rfl⟩
end
section
open Go Go.RowKit Go.Shelf
structure Ln where
 lb:Nat
 xb:Nat
 xc:Nat
 f:dy
 p:Po
 q:List ByteArray
 rf:List Nat
def sy(l:Ln):List Value:=.pointer (some ⟨l.f.pb,0,none⟩)::.pointer (some ⟨l.xb,0,none⟩)::l.rf.map λ(n:Nat)=>Value.int .u64 n
def lO(l:Ln):List Value:=[.pointer (some ⟨l.lb,0,none⟩)]
def ko(l:Ln):(lO l).length=1:=rfl
def Ln.all(l:Ln)(x:Nat):Prop:=x=l.lb\/x=l.xb\/x=l.xc\/l.f.all x
def Ln.aJ(l:Ln)(x:Nat):Prop:=l.all x\/(l.f.lo<=x/\x<l.f.hi)
structure iY (w:World) (room:Nat) (l:Ln):Prop where
 top:ag w l.lb (sy l) 91
 po:cW w l.f l.p
 bx:iz w l.xb l.xc room l.q
 nrf:l.rf.length=32
 d1:l.lb≠l.xb
 d2:l.lb≠l.xc
 d3:¬l.f.all l.lb
 d4:¬l.f.all l.xb
 d5:¬l.f.all l.xc
 d6:∀x,l.f.lo<=x->x<l.f.hi->x≠l.lb/\x≠l.xb/\x≠l.xc
def iz.EH{w:World}{bb cb cap:Nat}{l:List ByteArray}(h:iz w bb cb cap l):cb<w.heap.size:=by obtain⟨s,r,a⟩:=h.ch;exact(Ih.1 a).1
def iY.kp{T:Nat->Prop}{w w':World}{room:Nat}{l:Ln}(h:iY w room l)(k:Kp T w w')(a:∀x,l.aJ x->¬T x):iY w' room l:=
 {h with top:=h.top.kp k (a _ (.inl (.inl rfl))),po:=h.po.kp k (λb c=>a _ (.inl (.inr (.inr (.inr c))))) (λb d e=>a _ (.inr ⟨d,e⟩)),
         bx:=h.bx.kp k (a _ (.inl (.inr (.inl rfl)))) (a _ (.inl (.inr (.inr (.inl rfl)))))}
def iY.old{w w':World}{room:Nat}{l:Ln}(h:iY w room l)(k:Kp ae w w'):iY w' room l:=h.kp k (λ_ _ x=>x)
def iY.lt{w:World}{room:Nat}{l:Ln}(h:iY w room l){x:Nat}(a:l.aJ x):x<w.heap.size:=by
 rcases a with(rfl|rfl|rfl|a)|⟨_,a⟩
 ·exact h.top.lt
 ·exact h.bx.top.lt
 ·exact h.bx.EH
 ·exact h.po.lt a
 ·exact HP a h.po.hi
def np{T:Nat->Prop}{w w':World}{base tb n:Nat}{t:Tr}(h:ti.bV w base tb t n)(k:Kp T w w')(a:¬T tb)(c:∀b∈t.aw,¬T b):ti.bV w' base tb t n:=
 ⟨h.blk.kp k a,h.mem.kp k c,h.wf,h.nd,h.out,h.low,h.tlow,Hy h.blow k.size,h.root⟩
structure aX where
 db:Nat
 tb:Nat
 Cq:Nat
 d_:Nat
 n:Nat
 batch:Nat
 room:Nat
 v:Value
 T:Tr
 ls:List Ln
def Gm(d:aX):List Value:=[d.v,.pointer (some ⟨d.tb,0,none⟩),.int .i64 d.batch]
structure c2 (w:World) (d:aX):Prop where
 top:ag w d.db (Gm d) 79
 row:w.ownsRow d.d_ 89 1 d.v d.ls.length (d.ls.flatMap lO)
 tab:ti.bV w d.Cq d.tb d.T d.n
 lo:d.db<d.Cq
 hi:d.tb<d.d_
 oa:∀b∈d.T.aw,b<d.d_
 hsz:d.d_<=w.heap.size
 ln:∀l∈d.ls,iY w d.room l
 at_:∀l∈d.ls,∀x,l.aJ x->d.d_<=x/\d.v.ownBlock≠some x
 sep:d.ls.Pairwise (λa b=>∀x,a.aJ x->¬b.aJ x)
def c2.lh{w:World}{d:aX}(h:c2 w d):d.Cq<d.d_:=IL h.tab.tlow h.hi
def c2.old{w w':World}{d:aX}(h:c2 w d)(k:Kp ae w w'):c2 w' d:=
 {h with top:=h.top.kp k (λx=>x),row:=au h.row k (λ_ _ x=>x),tab:=h.tab.old k,hsz:=Hy h.hsz k.size,ln:=λl a=>(h.ln l a).old k}
def g_:List Nat:=List.replicate 32 0
def aC(l:Ln):Po×List ByteArray×List Nat:=(l.p,l.q,l.rf)
def EI:gL Tryz.prog 76 89 (.pointer none) 1 8:=⟨Tryz.underlying76,by kernel_rfl,rfl,by decide⟩
structure Cr (w wr:World) (cd:Nat) (cc:List Value) (db batch room:Nat) (rts:List Rt) (st:List (Po×List ByteArray×List Nat)) (d:aX):Prop where
 dv:c2 wr d
 kp:Kp ae w wr
 cf:ag wr cd cc 36
 cl:cd<d.db
 EJ:d.db=db
 ba:d.batch=batch
 ro:d.room=room
 pu:cr rts d.T
 EK:d.ls.map aC=st
 wd:w.heap.size<=d.db
def tW:∀(l:List Ln) (i:Nat) (m:Ln) (h:i<l.length),m.lb=l[i].lb->(l.set i m).flatMap lO=l.flatMap lO
 |a::l,0,m,_,e=>by
  have e:m.lb=a.lb:=e;simp[Iv,lO,e]
 |a::l,i+1,m,h,e=>by
  have:=tW l i m (by simpa using h) (by simpa using e);simp only[IE,Iv,this]
def c2.apart{w:World}{d:aX}(h:c2 w d){i j:Nat}(hi:i<d.ls.length)(a:j<d.ls.length)(f:i≠j):∀x,d.ls[i].aJ x->¬d.ls[j].aJ x:=λx b c=>by
 rcases HW i j with e|e
 ·exact IM.1 h.sep i j hi a e x b c
 ·exact IM.1 h.sep j i a hi (by omega) x c b
def c2.upd{T:Nat->Prop}{w w':World}{d:aX}(h:c2 w d){i:Nat}(hi:i<d.ls.length)(m:Ln)(k:Kp T w w')(D:∀x,x<w.heap.size->T x->d.ls[i].all x)(hm:iY w' d.room m)(z:m.lb=d.ls[i].lb)(A:∀x,m.aJ x->d.ls[i].aJ x\/w.heap.size<=x):c2 w' {d with ls:=d.ls.set i m}:=by
 have E:=h.lh;have B:=h.lo;have hsz:=h.hsz;have r:d.ls[i]∈d.ls:=Ht hi;have s:=h.at_ _ r;have g:∀x,x<w.heap.size->T x->d.d_<=x/\d.v.ownBlock≠some x:=λx c l=>s x (.inl (D x c l));have y:Kp (λx=>x<w.heap.size/\T x) w w':=⟨k.os,k.tape,k.output,k.size,λb p F=>k.block b p (λe=>F ⟨p,e⟩)⟩
 have hlen:(d.ls.set i m).length=d.ls.length:=Hr;refine⟨?_,?_,?_,B,h.hi,h.oa,Hy hsz k.size,?_,?_,?_⟩
 ·exact h.top.kp y (λe=>by have:=(g _ e.1 e.2).1;omega)
 ·have:=au h.row y (λb e f=>(g b f.1 f.2).2 e);show w'.ownsRow d.d_ 89 1 d.v (d.ls.set i m).length ((d.ls.set i m).flatMap lO);rw[hlen,tW _ _ _ hi z];exact this
 ·exact np h.tab y (λe=>by have:=(g d.tb e.1 e.2).1;have:=h.hi;omega) (λb p e=>by have:=(g b e.1 e.2).1;have:=h.oa b p;omega)
 ·intro a ha;obtain⟨j,C,rfl⟩:=JX.1 ha;by_cases e:i=j
  ·subst e;rw[J7];exact hm
  ·rw[Jk e];have t:j<d.ls.length:=by rw[<-hlen];exact C
   exact(h.ln _ (Ht t)).kp y (λx q f=>h.apart hi t e x (.inl (D x f.1 f.2)) q)
 ·intro a ha x q;obtain⟨j,C,rfl⟩:=JX.1 ha;by_cases e:i=j
  ·subst e;rw[J7]at q
   rcases A x q with c|c
   ·exact s x c
   ·exact⟨Hy hsz c,λe=>by have:=(an h.row e).2;omega⟩
  ·rw[Jk e]at q
   exact h.at_ _ (Ht (by rw[<-hlen];exact C)) x q
 ·refine IM.2 λa b ha p G x c l=> ?_;have n:a<d.ls.length:=by rw[<-hlen];exact ha
  have o:b<d.ls.length:=by rw[<-hlen];exact p
  by_cases e:i=a
  ·subst e;have f:i≠b:=by omega
   rw[J7]at c
   rw[Jk f]at l
   rcases A x c with u|u
   ·exact h.apart hi o f x u l
   ·have:=(h.ln _ (Ht o)).lt l;omega
  ·rw[Jk e]at c
   by_cases f:i=b
   ·subst f;rw[J7]at l
    rcases A x l with u|u
    ·exact h.apart hi n e x u c
    ·have:=(h.ln _ (Ht n)).lt c;omega
   ·rw[Jk f]at l
    exact h.apart n o (by omega) x c l
end
section
open Go Go.RowKit Go.Shelf Go.Maps
def ya{w:World}{f:dy}{p:Po}(h:cW w f p)(s:ByteArray)(k:s.size<=100000)(he:aS (bl s)≠0):
    Calls Tryz.prog 34 #[.pointer (some ⟨f.pb,0,none⟩),.string s] w λe w'=>e=.returned (.tuple #[.int .u32 0,.int .i64 (aS (bl s))])/\Kp ae w w':=by
 have i:=aa (λW=>l_ s k he W);have j:=mU he;have c0:=h.top.ai;obtain⟨pb,a⟩:∃pb,f.pb=pb:=⟨_,rfl⟩
 rw[a]at c0 ⊢
 obtain⟨c,b⟩:∃c,aS (bl s)=c:=⟨_,rfl⟩
 rw[b]at i j ⊢
 have l:¬c=0:=by omega
 clear h he j b a;go_enter Tryz.func34,Tryz.ntmps34;go_wp2_with fail;refine(i.out _).mono ?_;rintro e w1 ⟨rfl,d⟩;have g:=aa (d.alloc (.cells (cj lA).toArray 42));clear d;simp only[cj,lA]at*;go_wp2_with fail;go_ret2;exact⟨rfl,g.out⟩
def fj(l:List UInt8):(aL l).Ok:=⟨uD _ _,uD _ _,gA _ _⟩
def yb{w:World}{f:dy}{p:Po}(h:cW w f p)(r:dH w)(s:ByteArray)(v:s.size<=100000)(he:aS (bl s)=0)(hf:eS p.rl (aL (bl s)).n=none):
    Calls Tryz.prog 34 #[.pointer (some ⟨f.pb,0,none⟩),.string s] w λe w'=>e=.returned (.tuple #[.int .u32 0,.int .i64 7])/\Kp ae w w':=by
 have l:=aa (λW=>dC s v he W);have b:=λW (k:Kp ae w W)=>lM W f.tb p.rl h.ok.oe h.ok.dr ((h.old k).ru.rt) (r.kp k (λx=>x)) (aL (bl s)) (fj _);rw[hf]at b
 have HF:=aa b;have m:=aa h.top;obtain⟨pb,c⟩:∃pb,f.pb=pb:=⟨_,rfl⟩
 rw[c]at m ⊢
 obtain⟨H,t⟩:∃H,aL (bl s)=H:=⟨_,rfl⟩
 rw[t]at l HF
 have c0:=m.out.ai;simp only[cj,pO,pP]at l HF;obtain⟨ds,id,bG,sr,d,sp,u⟩:=H;simp only at l HF;clear h he c t r hf b;go_enter Tryz.func34,Tryz.ntmps34;go_wp2_with fail;refine(l.out _).mono ?_;rintro e w1 ⟨rfl,g⟩;have i:=aa (ag.new w1 [.int .u8 ds,.int .u16 id,.int .u8 bG,.int .u32 sr,.int .u32 d,.int .u16 sp,.int .u16 u] 42);have a:=aa (g.alloc (.cells #[.int .u8 ds,.int .u16 id,.int .u8 bG,.int .u32 sr,.int .u32 d,.int .u16 sp,.int .u16 u] 42));have d1:=(m.out.kp a.out (λx=>x)).aj;clear g c0;go_upto_region 6 with fail;refine ar 10 (by kernel_rfl) (λ_ _ _ _ _ h=>h) ?_;simp only[aO]
 repeat((first
    |refine bc (by exact rfl) (fm i.out _ Tryz.underlying42 rfl dO rfl rfl) ?_
    |refine ay (by rfl) (by as_aux_lemma=>intro W o;have y:=o.cell d1 (λx=>x);go_simp;exact rfl) ?_
    |refine ah (by rfl) ?_
    |refine aR (by rfl) (by as_aux_lemma=>intro W;go_simp;exact⟨rfl,rfl⟩) (by intro W o;with_reducible first|exact HF.out W (a.out.trans o)) ?_);simp only[Act.put,aH])
 intro z j;have q:=aa (a.out.trans j);clear j i a;go_wp2_with fail;go_ret2;exact⟨rfl,q.out⟩
def Ad{w:World}{f:dy}{p:Po}(h:cW w f p)(y:dH w)(s:ByteArray)(z:s.size<=100000)(he:aS (bl s)=0)(fl:Nat)(hf:eS p.rl (aL (bl s)).n=some fl)(A:ef (bl s)≠0):
    Calls Tryz.prog 34 #[.pointer (some ⟨f.pb,0,none⟩),.string s] w λe w'=>e=.returned (.tuple #[.int .u32 0,.int .i64 (ef (bl s))])/\Kp ae w w':=by
 have q:=aa (λW=>dC s z he W);have B:=aa (λW=>Bj s z A W);have b:=λW (k:Kp ae w W)=>lM W f.tb p.rl h.ok.oe h.ok.dr ((h.old k).ru.rt) (y.kp k (λx=>x)) (aL (bl s)) (fj _);rw[hf]at b
 have HF:=aa b;have r:=aa h.top;obtain⟨pb,g⟩:∃pb,f.pb=pb:=⟨_,rfl⟩
 rw[g]at r ⊢
 obtain⟨H,C⟩:∃H,aL (bl s)=H:=⟨_,rfl⟩
 rw[C]at q HF
 have c0:=r.out.ai;simp only[cj,pO,pP]at q HF;obtain⟨ds,id,bG,sr,d,sp,D⟩:=H;simp only at q HF;obtain⟨c,i⟩:∃c,ef (bl s)=c:=⟨_,rfl⟩
 rw[i]at B A ⊢
 clear h he g C y hf b i;go_enter Tryz.func34,Tryz.ntmps34;go_wp2_with fail;refine(q.out _).mono ?_;rintro e w1 ⟨rfl,j⟩;have l:=aa (ag.new w1 [.int .u8 ds,.int .u16 id,.int .u8 bG,.int .u32 sr,.int .u32 d,.int .u16 sp,.int .u16 D] 42);have a:=aa (j.alloc (.cells #[.int .u8 ds,.int .u16 id,.int .u8 bG,.int .u32 sr,.int .u32 d,.int .u16 sp,.int .u16 D] 42));have d1:=(r.out.kp a.out (λx=>x)).aj;clear j c0;go_upto_region 6 with fail;refine ar 10 (by kernel_rfl) (λ_ _ _ _ _ h=>h) ?_;simp only[aO]
 repeat((first
    |refine bc (by exact rfl) (fm l.out _ Tryz.underlying42 rfl dO rfl rfl) ?_
    |refine ay (by rfl) (by as_aux_lemma=>intro W t;have E:=t.cell d1 (λx=>x);go_simp;exact rfl) ?_
    |refine ah (by rfl) ?_
    |refine aR (by rfl) (by as_aux_lemma=>intro W;go_simp;exact⟨rfl,rfl⟩) (by intro W t;with_reducible first|exact HF.out W (a.out.trans t)) ?_);simp only[Act.put,aH])
 intro F m;have u:=aa (a.out.trans m);clear m l a;go_wp2_with fail;refine(B.out _).mono ?_;rintro e w3 ⟨rfl,o⟩;have v:=aa (u.out.trans o);clear o;go_wp2_with fail;go_ret2;exact⟨rfl,v.out⟩
def cW.vq{w w':World}{f:dy}{p:Po}(h:cW w f p){m:Mt}(a:ag w' f.pb (fY {p with m:=m} f) 123)(k:Kp (λb=>b=f.pb) w w')(hm:m.Ok):cW w' f {p with m:=m}:=
 {h with top:=a,sh:=h.sh.kp k (λb a e=>h.n2 (e▸a)),ru:=h.ru.kp k (λb c d e=>h.n4 (e▸⟨c,d⟩)),mp:=h.mp.kp k (λe=>h.n1 e.symm),hi:=Hy h.hi k.size,ok:= {h.ok with qf:=hm}}
def cW.mF{w w':World}{f:dy}{p:Po}(h:cW w f p){g:Sh}(ht:eQ w f.sf g w'):∃c,cW w' {f with sf:=c} {p with s:=g}/\Kp f.all w w'/\Nw w f.all ({f with sf:=c}:dy).all/\c.sb=f.sf.sb:=by
 obtain⟨c,hm,d,i,n⟩:=ht;have k:¬c.all f.pb:=λe=>by rcases i _ e with e|e;exact h.n2 e;(have:=h.top.lt;omega)
 have l:¬c.all f.mb:=λe=>by rcases i _ e with e|e;exact h.n3 e;(have:=h.mp.lt;omega)
 refine⟨c,{h with top:= ?_,sh:=hm,ru:=h.ru.kp d (λb m j e=>h.n6 b e ⟨m,j⟩),mp:=h.mp.kp d h.n3,n2:=k,n3:=l,n6:= ?_,hi:=Hy h.hi d.size,ok:= {h.ok with}},d.mono (λb _ a=>.inr (.inr a)),?_,n⟩
 ·have:=h.top.kp d h.n2;show ag w' f.pb (fY {p with s:=g} {f with sf:=c}) _;have e:fY {p with s:=g} {f with sf:=c}=fY p f:=by simp only[fY,n]
  rw[e];exact this
 ·intro b a;rintro⟨m,j⟩;rcases i _ a with e|e
  ·exact h.n6 b e ⟨m,j⟩
  ·have:=h.hi;have o:b<f.hi:=j;omega
 ·intro b a;rcases a with a|a|a
  ·exact .inl (.inl a)
  ·exact .inl (.inr (.inl a))
  ·rcases i _ a with e|e
   ·exact .inl (.inr (.inr e))
   ·exact .inr e
def cW.wait{w w':World}{f:dy}{p:Po}(h:cW w f p){num:Nat}{wt:Nat->List UInt8}(a:ag w' f.pb (fY {p with num:=num,wt:=wt} f) 123)(hm:jS w' f.mb num wt)(k:Kp (λb=>b=f.pb\/b=f.mb) w w')(g:num<4294967296)(i:∀b,(wt b).length<=100000):
    cW w' f {p with num:=num,wt:=wt}:=
 {h with top:=a,sh:=h.sh.kp k (λb a e=>by rcases e with e|e;exact h.n2 (e▸a);exact h.n3 (e▸a)),ru:=h.ru.kp k (λb c d e=>by rcases e with e|e;exact h.n4 (e▸⟨c,d⟩);exact h.n5 (e▸⟨c,d⟩)),mp:=hm,hi:=Hy h.hi k.size,ok:= {h.ok with num:=g,wl:=i}}
def kq{l:List UInt8}(h:aS l=0):(dw l).length=l.length:=by
 have a:=(ft h).1;unfold dw iw;rw[gB (by rw[gB (by omega)];omega),gB (by omega)]
def rj(l:List UInt8)(d:Nat):(gD l d).length<=l.length:=by
 unfold gD;split
 ·rename_i h;have a:aS l=0:=by unfold kc at h;split at h;cases h;exact h
  have b:=(ft a).1;unfold uE iw;rw[gB (by rw[gB (by omega)];omega),gB (by omega)];exact Hm _
 ·exact Hv _
def kr{m:Mt}(h:m.Ok)(n:Nat):(cZ m n).1.Ok:=by
 unfold cZ;split
 ·exact h
 ·rename_i b;have a:=xd h.lt (h.dr (by omega)) n;exact⟨a.1,λ_=>a.2⟩
def Cs(m:Mt)(n:Nat):(cZ m n).2=1\/(cZ m n).2=2\/(cZ m n).2=3:=by
 unfold cZ eT;split
 ·exact .inl rfl
 ·split
  ·exact .inl rfl
  ·split
   ·exact .inr (.inl rfl)
   ·exact .inr (.inr rfl)
def Ae(p:Po)(n:Nat)(g:p.m.ax=0):kn p n:=λw f c=>by
 have e:cZ p.m n=(p.m,1):=by unfold cZ;rw[Hl g]
 have a:ag w f.pb (fY {p with m:=p.m} f) 123:=c;have d:=aa a;have h:=c.aq;rw[e];simp only;have i:(p.m.ax:Int)=0:=by omega
 obtain⟨pb,b⟩:∃pb,f.pb=pb:=⟨_,rfl⟩
 rw[b]at h d ⊢
 clear c a e b;go_enter Tryz.func59,Tryz.ntmps59;go_wp2;go_ret;exact⟨rfl,d.out,Kp.refl _ _⟩
end
section
def Af(p:Po)(x:List UInt8):cq (dm p x).2.s.bk<=cq p.s.bk+1/\(dm p x).2.num<=p.num+1:=by
 have a:∀fl,cq (bQ p.s fl (p.num+1) x.length).2.bk<=cq p.s.bk+1:=λfl=>Gb p.s ⟨1,fl,p.num+1,x.length,0⟩;unfold dm;split
 ·exact⟨H4 _,H4 _⟩
 ·split
  ·exact⟨H4 _,H4 _⟩
  ·split
   ·exact⟨H4 _,H4 _⟩
   ·split
    ·exact⟨H4 _,H4 _⟩
    ·split
     ·exact⟨a _,Hm _⟩
     ·exact⟨a _,H4 _⟩
def Ag(p:Po):cq (cm p).2.s.bk=cq p.s.bk/\(cm p).2.num=p.num:=by
 have a:cq (bO p.s).2.bk=cq p.s.bk:=by
  unfold bO;split
  ·rfl
  ·split
   ·rfl
   ·show cq (h2 p.s.bk)=_;cases p.s.bk<;>rfl
 unfold cm;split
 ·exact⟨rfl,rfl⟩
 ·split
  ·exact⟨rfl,rfl⟩
  ·exact⟨a,rfl⟩
def nZ(l:List UInt8):0<=aS l/\aS l<32:=by
 unfold aS;split
 ·decide
 ·split
  ·decide
  ·split<;>decide
def vr(l:List UInt8):0<=ef l/\ef l<32:=by
 unfold ef;split
 ·exact nZ l
 ·split<;>decide
def rp(p:Po)(x:List UInt8):0<=(dm p x).1.2/\(dm p x).1.2<32:=by
 unfold dm;split
 ·exact nZ x
 ·split
  ·exact(by decide:(0:Int)<=7/\(7:Int)<32)
  ·split
   ·exact vr x
   ·split
    ·exact(by decide:(0:Int)<=21/\(21:Int)<32)
    ·split
     ·exact(by decide:(0:Int)<=0/\(0:Int)<32)
     ·have:=λfl=>wz p.s.g fl x.length;exact⟨by show 0<=bP _ _ _;rw[(this _).1];omega,by show bP _ _ _<32;rw[(this _).1];have:=(this ‹_›).2;omega⟩
def wB:∀(l:List ByteArray) (p:Po) (rf:List Nat),cq (ep p rf l).1.s.bk<=cq p.s.bk+l.length/\(ep p rf l).1.num<=p.num+l.length
 | [],p,rf=>⟨Hm _,Hm _⟩
 |x::r,p,rf=>by
  have a:=Af p (bl x);have b:=wB r (dm p (bl x)).2 (eV rf (dm p (bl x)).1.2);rw[jF,Hs];omega
def Ct(n:Nat):∀p,cq (cF n p).2.s.bk=cq p.s.bk/\(cF n p).2.num=p.num:=by
 induction n with
 |zero=>intro p;exact⟨rfl,rfl⟩
 |succ n b=>
  intro p;have a:=Ag p;by_cases h:(cm p).1.2=0
  ·rw[kQ h];have:=b (cm p).2;exact⟨this.1.trans a.1,this.2.trans a.2⟩
  ·rw[km h];exact a
def Ah(batch:Nat)(l:ct):cq (fX batch l).2.1.s.bk<=cq l.1.s.bk+batch/\(fX batch l).2.1.num<=l.1.num+batch:=by
 have a:=Ct batch (ep l.1 l.2.2 (l.2.1.take batch)).1;have b:=wB (l.2.1.take batch) l.1 l.2.2;have c:(l.2.1.take batch).length<=batch:=by rw[HG];omega
 show cq (cF batch _).2.s.bk<=_/\(cF batch _).2.num<=_;omega
def rq{rf:List Nat}(h:∀x∈rf,x<18446744073709551616)(c:Int):∀x∈eV rf c,x<18446744073709551616:=by
 unfold eV;split
 ·exact h
 ·intro x a;rcases Il a with a|rfl
  ·exact h x a
  ·unfold cH;split<;>omega
def pV:∀(l:List ByteArray) (p:Po) {rf:List Nat},(∀x∈rf,x<18446744073709551616)->∀x∈(ep p rf l).2,x<18446744073709551616
 | [],_,_,h=>h
 |_::r,_,_,h=>pV r _ (rq h _)
end
section
open Go Go.RowKit Go.Shelf
def wC:List dF:=[⟨1,1,10,0,50⟩,⟨2,1,20,0,50⟩]
def Ai(b:Int):ey:=⟨2,b,1,2,9,100,0,10,1,10,wC⟩
def wD:(Tryz.prog.info? 65).map (·.size)=some 11:=by kernel_rfl
def EL(w:World):Calls Tryz.prog 33 #[] w λe w'=>∃b,e=.returned (.agg (er (Ai 1) (.slice (some ⟨b,0,none⟩) 2 2)).toArray)/\ag w' b (wC.flatMap cv) 106/\w.heap.size<=b/\Kp ae w w':=by
 refine al ?_;intro PP j;have k:=aa (ag.new w [.int .i64 0,.int .i64 0,.int .i64 0,.int .i64 0,.int .i64 0,.int .u64 0,.int .i64 0,.int .u64 0,.int .u64 0,.int .u64 0,.slice none 0 0] 65);have h:=aa (ag.new (w.alloc (.cells He 65)) [.int .u32 1,.int .u64 1,.int .u64 10,.int .u64 0,.int .u64 50,.int .u32 2,.int .u64 1,.int .u64 20,.int .u64 0,.int .u64 50] 106);have i:(w.alloc (.cells He 65)).heap.size=w.heap.size+1:=by simp
 rw[i]at h
 have l:=aa (((Kp.refl ae w).alloc (.cells He 65)).alloc (.cells #[.int .u32 1,.int .u64 1,.int .u64 10,.int .u64 0,.int .u64 50,.int .u32 2,.int .u64 1,.int .u64 20,.int .u64 0,.int .u64 50] 106));have f:=aa (k.out.alloc (.cells #[.int .u32 1,.int .u64 1,.int .u64 10,.int .u64 0,.int .u64 50,.int .u32 2,.int .u64 1,.int .u64 20,.int .u64 0,.int .u64 50] 106));clear i;go_enter Tryz.func33,Tryz.ntmps33
 go_wp2_with(refine aW rfl 65 (.tmp 0) (.tmp 4) rfl f.out (er (Ai 1) (.slice (some ⟨w.heap.size+1,0,none⟩) 2 2)) rfl rfl rfl wD rfl ?_
             intro m a c;have g:=aa a;have d:=aa c
             clear a c)
 refine dk (by exact rfl) g.out _ Tryz.underlying65 rfl wD (by exact rfl) (j.out _ _ ⟨w.heap.size+1,rfl,h.out.kp d.out (λe=>by omega),by omega,l.out.then d.out (λz _ e=>by omega)⟩)
def Aj{w r s w7:World}{d:aX}{E db batch room g cap:Nat}{F:List Value}{t:List Rt}{st:List (Po×List ByteArray×List Nat)}(h:Cr w r E F db batch room t st d)(l:Ln)(n:Kp ae r s)(G:iY s room l)(u:∀x,l.aJ x->r.heap.size<=x)
    (H:s.grownBy w7 d.v.ownBlock) (k:w7.ownsRow d.d_ 89 1 (.slice (some ⟨g,0,none⟩) (d.ls.length+1) cap) (d.ls.length+1) (d.ls.flatMap lO++lO l)) (y:d.v.ownBlock=some g\/g=s.heap.size):
    Cr w (w7.setCell ⟨db,0,none⟩ (.slice (some ⟨g,0,none⟩) (d.ls.length+1) cap)) E F db batch room t (st++[aC l]) {d with v:=.slice (some ⟨g,0,none⟩) (d.ls.length+1) cap,ls:=d.ls++[l]}:=by
 obtain rfl:=h.EJ;obtain rfl:=h.ro;have f:=h.dv;have J:=f.lh;have z:=f.lo;have hsz:=f.hsz;have A:=h.wd;have C:=h.cl;have K:=n.size;have i:∀b,d.v.ownBlock=some b->d.d_<=b/\b<r.heap.size:=λb e=>an f.row e;have L:d.d_<=g:=(an k (b:=g) rfl).1;have o:Kp (λx=>d.v.ownBlock=some x) s w7:=(Kp.refl _ _).grown H (λb e=>.inl e);have p:Kp (λx=>x=d.db) w7 (w7.setCell ⟨d.db,0,none⟩ (.slice (some ⟨g,0,none⟩) (d.ls.length+1) cap)):=fQ _ _ _ _;have M:=o.size;have N:=p.size;have j:∀x,l.aJ x->d.v.ownBlock≠some x/\x≠d.db/\d.d_<=x/\g≠x:=λx c=>by
  have B:=u x c;have I:=G.lt c;refine⟨λe=>by have:=(i x e).2;omega,by omega,by omega,?_⟩;rcases y with e|e
  ·have:=(i g e).2;omega
  ·omega
 have hold:∀m∈d.ls,∀x,m.aJ x->d.v.ownBlock≠some x/\x≠d.db/\d.d_<=x/\g≠x/\x<r.heap.size:=λm hm x c=>by
  have B:=f.at_ m hm x c;have I:=(f.ln m hm).lt c;refine⟨B.2,by omega,B.1,?_,I⟩;rcases y with e|e
  ·intro D;subst D;exact B.2 e
  ·omega
 refine⟨⟨?_,?_,?_,z,f.hi,f.oa,by show d.d_<=_;omega,?_,?_,?_⟩,?_,?_,C,rfl,h.ba,rfl,h.pu,?_,A⟩
 ·exact((f.top.kp n (λx=>x)).kp o (λe=>by have:=(i _ e).1;omega)).set 0 _
 ·have:=au k p (λb e D=>by have:g=b:=by simpa[Value.ownBlock]using e
                           omega)
  simpa using this
 ·exact np (np (f.tab.old n) o (λe=>by have:=(i d.tb e).1;have:=f.hi;omega) (λb q e=>by have:=(i _ e).1;have:=f.oa b q;omega)) p (λe=>by have D:d.tb=d.db:=e;have:=f.tab.tlow;omega) (λb q e=>by have:=f.tab.low b q;omega)
 ·intro m hm;rcases Hu.1 hm with hm|hm
  ·exact(((f.ln m hm).old n).kp o (λx c=>(hold m hm x c).1)).kp p (λx c=>(hold m hm x c).2.1)
  ·rw[H0]at hm
   subst hm;exact(G.kp o (λx c=>(j x c).1)).kp p (λx c=>(j x c).2.1)
 ·intro m hm x c;rcases Hu.1 hm with hm|hm
  ·exact⟨(hold m hm x c).2.2.1,λe=>(hold m hm x c).2.2.2.1 (by simpa[Value.ownBlock]using e)⟩
  ·rw[H0]at hm
   subst hm;exact⟨(j x c).2.2.1,λe=>(j x c).2.2.2 (by simpa[Value.ownBlock]using e)⟩
 ·refine IN.2 ⟨f.sep,K7 _ _,λa ha b q x c hy=> ?_⟩;rw[H0]at q
  subst q;have:=(hold a ha x c).2.2.2.2;have:=u x hy;omega
 ·exact((h.kp.trans n).grown H (λb e=>.inr (by have:=(i b e).1;omega))).set (.inr A) _
 ·exact((h.cf.kp n (λx=>x)).kp o (λe=>by have:=(i _ e).1;omega)).kp p (by omega)
 ·rw[HE,h.EK];rfl
def hJ:(Tryz.prog.info? 68).map (·.size)=some 16:=by kernel_rfl
def Gn:gL Tryz.prog 33 82 (.agg (bE qd).toArray) 16 160:=⟨Tryz.underlying33,by kernel_rfl,rfl,by decide⟩
def Gp:gL Tryz.prog 34 92 (.agg #[.int .u32 0,.int .i64 0,.int .i64 0]) 3 24:=⟨Tryz.underlying34,by kernel_rfl,rfl,by decide⟩
def Ak(c:jC)(d:Option Addr)(n cap:Nat)(b:Option Addr)(n' a:Nat)(W:World):(Instr.buildSlice 33 1 #[(0,.agg (bE ⟨c,.slice d n cap,.slice b n' a⟩).toArray)]).run Tryz.prog W=.ok (.slice (some ⟨W.heap.size,0,none⟩) 1 1) (W.alloc (.cells (bE ⟨c,.slice d n cap,.slice b n' a⟩).toArray 82)):=by
 obtain⟨⟨rk,bk,lv,qu,e,bt,sh,mt,rt,f,fl⟩,rl,ax,bD,aJ,y⟩:=c;kernel_rfl
def Al(a b x:Int)(W:World):(Instr.buildSlice 34 1 #[(0,.agg #[.int .u32 a,.int .i64 b,.int .i64 x])]).run Tryz.prog W=.ok (.slice (some ⟨W.heap.size,0,none⟩) 1 1) (W.alloc (.cells #[.int .u32 a,.int .i64 b,.int .i64 x] 92)):=by kernel_rfl
def vs{P:Program}{ops:Array Oper}{rest:List Oper}{op:Oper}{a:Act}{w:World}{Q:Exit->Act->World->Prop}(b:op.guard=none){t:TypeId}(x:Operand)(c:op.op=.buildSlice t 1 #[(0,x)]){y v:Value}{w':World}
    (d:(Instr.buildSlice t 1 #[(0,y)]).run P w=.ok v w') (hy:a.eval x=y) (h:wpList P ops Q rest (a.put op.dst v) w'):wpList P ops Q (op::rest) a w:=Kf b λ_ f=>by
 subst hy;unfold Oper.wp execOp;have e:(#[(0,x)]:Array (Nat×Operand)).map (λ(i,x)=>(i,a.eval x))=#[(0,a.eval x)]:=by simp
 simp only[c,e,IG,d,IC,IP];exact f _ _ h
def wE:(Tryz.prog.info? 36).map (·.size)=some 4:=by kernel_rfl
end
end Go.Proofs.YtincjochpkdnfaaGreatDoor
