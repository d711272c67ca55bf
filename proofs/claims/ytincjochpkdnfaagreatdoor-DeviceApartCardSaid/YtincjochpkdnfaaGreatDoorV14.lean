/- Rings (layer 6): Take. -/
import Derived.Test.YtincjochpkdnfaaGreatDoorV8
import Derived.Test.YtincjochpkdnfaaGreatDoorV9
set_option linter.all false
set_option maxHeartbeats 4000000
set_option maxRecDepth 100000
namespace Go.Proofs.YtincjochpkdnfaaGreatDoor
section
open Go Go.RowKit Go.Shelf
def pd{P:Program}(w:World)(t e ty:TypeId)(z:Value)(a:List Value)(ht:P.underlying t=some (.slice e))(k:∀w,(zeroValue e).run P w=.ok z w)(hz:z.cells=a.toArray)(g:∀v∈a,v.oneCell'=true)(b o c:Nat)
    (l:∀j,j<a.length->(w.cell? ⟨b,o+j,none⟩).isSome=true) (hf:∀j,j<a.length->w.frozen? ⟨b,o+j,none⟩=false):
    (Builtin.clear_ #[t] ty #[.slice (some ⟨b,o,none⟩) 1 c]).run P w=.ok (.tuple #[]) (w.setCells b o a):=by
 have f:(Builtin.zeroCells z.cells 1).toList=a:=by
  rw[hz];simp[Builtin.zeroCells];apply K3
  ·simp
  ·intro i g h;simp[IH h,Hn h]
 have d:=run_storeCells_cells (P:=P) b o a 0 w (by simpa using l) (by simpa using hf) g;simp only[Ig]at d;simp[Builtin.clear_,Jz ht,k,f,d]
def Bt:∀w:World,(zeroValue 317).run Tryz.prog w=.ok (.agg (dL iP).toArray) w:=λ_=>by kernel_rfl
def Bu{w:World}{F:Nat->Prop}{rb room:Nat}{q:It}{Q:List It}(h:Rg w F rb room (q::Q)):Calls Tryz.prog 234 #[.pointer (some ⟨rb,0,none⟩)] w λe w'=>e=.returned (.tuple #[.agg (dL q).toArray,.bool true])/\Rg w' F rb room Q/\Kp F w w':=by
 have aS:=aa (λW (k:Kp ae w W)=>vU (h.old k));simp only[iQ]at aS;obtain⟨v,S,fr,n,rfl,hm,ok,z⟩:=h;have aZ:0<n:=by have:=ok.len;rw[Hs]at this;omega
 have a0:=ok.hN;have A:=ok.oI (by omega);have aT:=ok.fits;have aU:=aa (ok.take iP).2;obtain⟨g,cap,rfl,_⟩:=aY hm.row (by omega);have aV:=ta hm.row;have ad:g≠rb:=λe=>aA hm.row hm.top (by decide) (by rw[e];rfl);have aW:=aa hm;have af:fE S.length fr 1<S.length:=je A (by omega);clear hm ok;have a1:(fr:Int)+1<=cap:=by omega
 have a2:(fr:Int)<cap:=by omega
 have a3:Hid (IntKind.i64.wrap ((fr:Int)+1)=(fr:Int)+1):=aa (by rw[H3];omega);have a4:=aa (ag.new w [.int .u64 0,.int .u32 0,.int .u32 0,.int .u64 0] 317);have aX:=aa ((Kp.refl ae w).alloc (.cells #[.int .u64 0,.int .u32 0,.int .u32 0,.int .u64 0] 317));go_enter Tryz.func234,Tryz.ntmps234;go_wp2_with fail;refine(aS.out _ aX.out).mono ?_;rintro e w1 ⟨rfl,B⟩;have G:=aa (a4.out.kp B (λx=>x));have H:=aa (aX.out.trans B);have I:=aa (aW.out.old H.out);clear B;have ak:w.heap.size<w1.heap.size:=G.out.lt;have al:rb<w1.heap.size:=I.out.top.lt
 go_wp2_with(first
    |(refine b0 rfl 317 (.tmp 4) (.tmp 9) rfl (ag.new w1 [.int .u64 0,.int .u32 0,.int .u32 0,.int .u64 0] 317) (dL q) rfl rfl (eL q) rfl (rV q) ?_
      intro W2 J K L;have M:=aa J;have ao:=aa (K _ _ _ (G.out.alloc _) (by omega));have u:=aa (L ae w1 ((Kp.refl ae w1).alloc _) (.inr (Hm _)))
      clear J K L))
 have C:=aa (I.out.old u.out);have av:=aa (H.out.trans u.out);obtain⟨y,hy⟩:∃y,w1.heap.size=y:=⟨_,rfl⟩
 rw[hy]at M ak al ⊢
 clear hy;have c0:=C.out.top.ai;have c1:=C.out.top.aj;refine ar 14 (by kernel_rfl) (λ_ _ _ _ _ h=>h) ?_;simp only[aO]
 repeat((first
    |refine ay (by rfl) (by as_aux_lemma=>intro W hK;have e0:=hK.cell c0 (λx=>x);have e1:=hK.cell c1 (λx=>x);have e2:=a3.out;go_simp;exact rfl) ?_
    |refine ah (by rfl) ?_);simp only[Act.put,aH])
 intro E i;have o:=aa (C.out.old i);have aw:=aa (M.out.kp i (λx=>x));have ax:=aa (ao.out.kp i (λx=>x));have az:=aa (av.out.trans i);clear i c0 c1;have N:∀ty c,(Builtin.clear_ #[329] ty #[.slice (some ⟨g,fr*4,none⟩) 1 c]).run Tryz.prog E=.ok (.tuple #[]) (E.setCells g (fr*4) (dL iP)):=λty c=>
  pd E _ _ ty _ (dL iP) Tryz.underlying329 Bt rfl (rV iP) g (fr*4) c (λj hj=>by
   rw[eB]at hj
   have hl:(S.flatMap dL).length=S.length*4:=cA dL 4 eB S
   rw[bu o.out.row (fr*4+j) (Hn (show fr*4+j<(S.flatMap dL).length by omega))];rfl) (λj _=>gH o.out.row _)
 have r:=iy (dL iP) (fr*4) _ _ o.out.row;have a:Kp (λb=>b=g) E (E.setCells g (fr*4) (dL iP)):=eE (S:=λb=>b=g) (.inl rfl) _ _ _ (Kp.refl _ _);rw[<-eD dL 4 eB S fr iP A]at r
 obtain⟨W4,D⟩:∃W4,E.setCells g (fr*4) (dL iP)=W4:=⟨_,rfl⟩
 rw[D]at r a
 simp only[D]at N;clear D;have a5:g<w.heap.size:=(an aW.out.row rfl).2;have aB:y≠g:=by omega
 have aC:w.heap.size≠g:=by omega
 have aD:=aa (aw.out.kp a aB);have aE:=aa (ax.out.kp a aC);have O:Hid (kX W4 rb (.slice (some ⟨g,0,none⟩) S.length cap) (S.set fr iP) fr n room):=aa ⟨o.out.top.kp a (λe=>ad e.symm),by rw[Hr];exact r⟩;have aF:Hid (Kp (mS rb (.slice (some ⟨g,0,none⟩) S.length cap)) w W4):=aa ((az.out.mono (λ_ _ x=>x.elim)).trans (a.mono (λb _ e=>.inr (by rw[e];rfl))));clear r a;go_wp2_with fail;have s:=l6 O.out (by rw[Hr];exact A) (by rw[Hr];omega) 1 (by rw[Hr];omega);rw[Hr]at s
 obtain⟨t,P⟩:∃f,fE S.length fr 1=f:=⟨_,rfl⟩
 rw[P]at s aU af
 refine JM s ?_;rintro e R ⟨rfl,l⟩;have d:=aa (O.out.old l);have aG:=aa (aD.out.kp l (λx=>x));have T:=aa (aE.out.kp l (λx=>x));have aI:Hid (Kp (mS rb (.slice (some ⟨g,0,none⟩) S.length cap)) w R):=aa (aF.out.trans (l.mono (λ_ _ x=>x.elim)));clear l s P N;have r1:=d.out.top.aj;have r2:=d.out.top.aq;have rf:=λj=>d.out.top.fz j;have aJ:y≠rb:=by omega
 have U:w.heap.size≠rb:=λe=>e3 T.out d.out.top (by decide) e;have m:Kp (λb=>b=rb) R ((R.setCell ⟨rb,1,none⟩ (.int .i64 (t:Int))).setCell ⟨rb,2,none⟩ (.int .i64 ((n:Int)-1))):=((Kp.refl (λb=>b=rb) R).set (p:=⟨rb,1,none⟩) (.inl rfl) _).set (p:=⟨rb,2,none⟩) (.inl rfl) _;have aK:=aa ((d.out.top.set 1 (.int .i64 (t:Int))).set 2 (.int .i64 ((n:Int)-1)));have aL:=aa (au d.out.row m (λb hb e=>by have h9:g=b:=Option.some.inj hb;omega));have aM:=aa (aG.out.kp m aJ);have aN:=aa (T.out.kp m U);have aP:Hid (Kp (mS rb (.slice (some ⟨g,0,none⟩) S.length cap)) w ((R.setCell ⟨rb,1,none⟩ (.int .i64 (t:Int))).setCell ⟨rb,2,none⟩ (.int .i64 ((n:Int)-1)))):=aa (aI.out.trans (m.mono (λb _ e=>.inl e)));clear m
 go_wp2_with(first
    |(refine dc rfl 317 (.tmp 4) rfl aM.out _ rfl Tryz.underlying317 rfl (eL q) ?_)
    |(refine b0 rfl 317 (.tmp 2) (.tmp 38) rfl aN.out (dL q) rfl rfl (eL q) rfl (rV q) ?_
      intro W7 V X Y;have aQ:=aa V;have aR:=aa (X _ _ _ aK.out U.symm);have Z:=aa Y
      clear V X Y))
 have ac:=Z.out (λb=>b=w.heap.size) _ (Kp.refl _ _) (.inl rfl);refine cO (by exact rfl) aQ.out _ Tryz.underlying317 rfl (eL q) (by exact rfl) ⟨rfl,⟨.slice (some ⟨g,0,none⟩) S.length cap,S.set fr iP,t,n-1,rfl,⟨?_,?_⟩,aU.out,z⟩,Z.out _ _ aP.out (.inr (Hm _))⟩
 ·have e:((n-1:Nat):Int)=(n:Int)-1:=by omega
  rw[e];exact aR.out
 ·exact au aL.out ac (λb hb e=>by have h9:g=b:=Option.some.inj hb;omega)
def pR(p:Nat):Value:=.pointer (some ⟨p,0,none⟩)
structure JJJ (w:World) (qb room:Nat) (bs:List Nat) (Qs:List (List It)) (v1 v2:Value) (ps:List Nat) (Fs:Nat->Nat->Prop):Prop where
 top:ag w qb [v1,v2,.int .i64 room,.int .i64 (eO Qs)] 274
 prow:w.ownsRow 0 313 1 v1 ps.length (ps.map pR)
 brow:w.ownsRow 0 38 1 v2 bs.length (bs.map e0)
 plen:ps.length=Qs.length
 blen:bs.length=Qs.length
 few:1<=Qs.length/\Qs.length<=32
 tot:eO Qs<=room/\room<=4096
 up:yr bs
 bok:∀b∈bs,b<18446744073709551616
 rings:∀i p Q,ps[i]? =some p->Qs[i]? =some Q->Rg w (Fs i) p room Q
 apart:∀i j b,i<ps.length->j<ps.length->i≠j->Fs i b->¬Fs j b
def Bv(a:Nat)(v1 v2:Value)(c:List Nat)(d:Nat->Nat->Prop):Nat->Prop:=λb=>b=a\/v1.ownBlock=some b\/v2.ownBlock=some b\/∃i,i<c.length/\d i b
def Qu(w:World)(F:Nat->Prop)(a room:Nat)(d:List Nat)(e:List (List It)):Prop:=∃(v1 v2:Value) (b:List Nat) (c:Nat->Nat->Prop),F=Bv a v1 v2 b c/\JJJ w a room d e v1 v2 b c
def JJJ.kp{T:Nat->Prop}{w w':World}{d room:Nat}{g:List Nat}{j:List (List It)}{v1 v2:Value}{e:List Nat}{f:Nat->Nat->Prop}(h:JJJ w d room g j v1 v2 e f)(k:Kp T w w')(c:∀b,Bv d v1 v2 e f b->¬T b):JJJ w' d room g j v1 v2 e f:=
 {h with top:=h.top.kp k (c _ (.inl rfl)),prow:=au h.prow k (λb a=>c b (.inr (.inl a))),brow:=au h.brow k (λb a=>c b (.inr (.inr (.inl a)))),rings:=λi p Q hp l=>(h.rings i p Q hp l).kp k (λb a=>c b (.inr (.inr (.inr ⟨i,(HD.1 hp).1,a⟩))))}
def JJJ.old{w w':World}{a room:Nat}{b:List Nat}{c:List (List It)}{v1 v2:Value}{d:List Nat}{e:Nat->Nat->Prop}(h:JJJ w a room b c v1 v2 d e)(k:Kp ae w w'):JJJ w' a room b c v1 v2 d e:=h.kp k (λ_ _ x=>x)
def Qu.kp{T:Nat->Prop}{w w':World}{F:Nat->Prop}{a room:Nat}{c:List Nat}{d:List (List It)}(h:Qu w F a room c d)(k:Kp T w w')(e:∀b,F b->¬T b):Qu w' F a room c d:=by
 obtain⟨v1,v2,f,g,rfl,hm⟩:=h;exact⟨v1,v2,f,g,rfl,hm.kp k e⟩
def Qu.old{w w':World}{F:Nat->Prop}{a room:Nat}{b:List Nat}{c:List (List It)}(h:Qu w F a room b c)(k:Kp ae w w'):Qu w' F a room b c:=h.kp k (λ_ _ x=>x)
def Qu.lt{w:World}{F:Nat->Prop}{c room:Nat}{d:List Nat}{e:List (List It)}(h:Qu w F c room d e){b:Nat}(a:F b):b<w.heap.size:=by
 obtain⟨v1,v2,f,g,rfl,hm⟩:=h;rcases a with rfl|a|a|⟨i,hi,a⟩
 ·exact hm.top.lt
 ·exact(an hm.prow a).2
 ·exact(an hm.brow a).2
 ·exact(hm.rings i _ _ (Hn hi) (Hn (by rw[<-hm.plen];exact hi))).lt a
def Bw{w:World}{F:Nat->Prop}{rb room:Nat}{Q:List It}(h:Rg w F rb room Q):Calls Tryz.prog 236 #[.pointer (some ⟨rb,0,none⟩)] w λe w'=>e=.returned (.int .i64 Q.length)/\w=w':=by
 obtain⟨v,S,fr,n,rfl,hm,ok,a⟩:=h;rw[ok.len];exact uH hm
def nP(a:List Nat)(b:List (List It)):Option Addr:=match gh b with|some i=>some ⟨a.getD i 0,0,none⟩|none=>none
def v8{w:World}{x room:Nat}{z:List Nat}{b:List (List It)}{v1 v2:Value}{a:List Nat}{A:Nat->Nat->Prop}(h:JJJ w x room z b v1 v2 a A):
    Calls Tryz.prog 232 #[.pointer (some ⟨x,0,none⟩)] w λe w'=>e=.returned (.pointer (nP a b))/\w=w':=by
 have c0:=h.top.ai;obtain⟨g,cap,rfl,_⟩:=aY h.prow (by rw[h.plen];have:=h.few;omega);have B:a.length<=32:=by rw[h.plen];exact h.few.2
 have r:=aa h;obtain⟨R,s⟩:∃R,nP a b=R:=⟨_,rfl⟩
 rw[s];have y:=aa s;clear h s;go_enter Tryz.func232,Tryz.ntmps232;go_wp2_with fail;go_loop [12] (λi0=>∃i:Nat,i0=.int .i64 i/\i<=a.length/\Hid (∀j,j<i->b[j]? =some [])) (λi0=>a.length-(intOf i0).toNat)
 case atStart=>exact⟨0,rfl,Hv _,λj C=>by omega⟩
 case round=>
  obtain⟨i,rfl,hi,t⟩:=hrel;by_cases c:i<a.length
  ·have D:(i:Int)<a.length:=by omega
   have l:i<b.length:=by rw[<-r.out.plen];exact c
   have cp:w.cell? ⟨g,i,none⟩=some (.pointer (some ⟨a[i],0,none⟩)):=bu r.out.prow i (by rw[H2,Hn c];rfl);have n:=aa (Bw (r.out.rings i _ _ (Hn c) (Hn l)));obtain⟨Q,u⟩:∃Q,b[i]=Q:=⟨_,rfl⟩
   have d:b[i]? =some Q:=by rw[Hn l,u]
   have f:a.getD i 0=a[i]:=by rw[Hx,Hn c];rfl
   rw[u]at n
   obtain⟨p,hp⟩:∃p,a[i]=p:=⟨_,rfl⟩
   rw[hp]at cp n f
   clear u hp l;cases Q with
   |nil=>
    have E:Hid (∀j,j<i+1->b[j]? =some []):=aa (λj C=>by
     by_cases e:j=i
     ·subst e;exact d
     ·exact t.out j (by omega))
    simp only[Jj]at n;clear d f;go_wp2_with fail;refine n.out.mono ?_;rintro e w1 ⟨rfl,rfl⟩;go_wp2_with fail;go_round
    case rel=>exact⟨i+1,by go_num,by omega,E.out⟩
    case measure=>simp[intOf];omega
   |cons q Q=>
    have HF:Hid (R=some ⟨p,0,none⟩):=aa (by
     rw[<-y.out];unfold nP;rw[ys d t.out];simp only;rw[f])
    obtain⟨m,hm⟩:∃m,(q::Q).length=m:=⟨_,rfl⟩
    have F:(0:Int)<m:=by have:m=Q.length+1:=by rw[<-hm];rfl
                         omega
    rw[hm]at n
    clear d f hm;go_wp2_with fail;refine n.out.mono ?_;rintro e w1 ⟨rfl,rfl⟩;go_wp2_with fail;go_ret;exact⟨by rw[HF.out];rfl,rfl⟩
  ·have o:i=a.length:=by omega
   have HF:Hid (R=none):=aa (by
    rw[<-y.out];unfold nP;cases e:gh b with
    |none=>rfl
    |some k=>
     obtain⟨q,Q,v,H⟩:=gu e;have G:k<b.length:=(HD.1 v).1
     rw[t.out k (by rw[o,r.out.plen];exact G)]at v;cases v)
   subst o;go_wp2_with fail;go_ret;exact⟨by rw[HF.out];rfl,rfl⟩
def iA(a:List (List It)):It×Bool:=match gh a with|some i=>iQ (a.getD i [])|none=>(iP,false)
def Bx{w:World}{d room:Nat}{f:List Nat}{a:List (List It)}{v1 v2:Value}{b:List Nat}{g:Nat->Nat->Prop}(h:JJJ w d room f a v1 v2 b g)(W:World)(k:Kp ae w W):
    Calls Tryz.prog 233 #[.pointer (nP b a)] W λe w'=>e=.returned (.tuple #[.agg (dL (iA a).1).toArray,.bool (iA a).2])/\Kp ae W w':=by
 unfold nP iA;cases e:gh a with
 |none=>exact uI W
 |some i=>
  obtain⟨q,Q,c,m⟩:=gu e;have hi:i<a.length:=(HD.1 c).1;have hp:b[i]? =some (b.getD i 0):=by
   have j:i<b.length:=by rw[h.plen];exact hi
   rw[Hx,Hn j];rfl
  have l:a.getD i []=q::Q:=by rw[Hx,c];rfl
  simp only;rw[l];exact vU ((h.rings i _ _ hp c).old k)
def D2{w:World}{g room:Nat}{n:List Nat}{c:List (List It)}{v1 v2:Value}{i:List Nat}{o:Nat->Nat->Prop}(h:JJJ w g room n c v1 v2 i o):
    Calls Tryz.prog 229 #[.pointer (some ⟨g,0,none⟩)] w λe w'=>e=.returned (.tuple #[.int .u64 (iA c).1.ao,.agg (ix (iA c).1.x).toArray,.bool (iA c).2])/\Kp ae w w':=by
 have l:=aa (λW (k:Kp ae w W)=>Bx h W k);have HF:=aa (λW (k:Kp ae w W)=>v8 (h.old k));generalize nP i c=R at*;obtain⟨⟨⟨r,⟨fl,id,ln⟩⟩,is⟩,m⟩:∃x,iA c=x:=⟨_,rfl⟩
 rw[m]at l ⊢
 clear m h;show Calls _ _ _ _ λe w'=>e=.returned (.tuple #[.int .u64 (r:Int),.agg #[.int .u32 (fl:Int),.int .u32 (id:Int),.int .u64 (ln:Int)],.bool is])/\Kp ae w w';have q:=aa (ag.new w [.int .u32 0,.int .u32 0,.int .u64 0] 148);have d:=aa ((Kp.refl ae w).alloc (.cells #[.int .u32 0,.int .u32 0,.int .u64 0] 148));go_enter Tryz.func229,Tryz.ntmps229;go_wp2_with fail;refine(HF.out _ d.out).mono ?_;rintro e w1 ⟨rfl,rfl⟩;go_wp2_with fail;refine(l.out _ d.out).mono ?_;rintro e s ⟨rfl,b⟩;have a:=aa (q.out.kp b (λx=>x));have f:=aa (d.out.trans b);clear b;have t:w.heap.size<s.heap.size:=a.out.lt;have u:=a.out.ai;have b1:=a.out.aj;have b2:=a.out.aq;have bf:=λj=>a.out.fz j;simp only[dL];go_wp2_with fail;go_region
 all_goals
    go_wp2_with fail;exact dA (by exact rfl) (((((a.out.set 0 (.int .u32 (fl:Int))).set 1 (.int .u32 (id:Int))).set 2 (.int .u64 (ln:Int))).alloc _).drew) _ Tryz.underlying148 rfl c7 (by exact rfl) ⟨rfl,((((f.out.set (p:=⟨w.heap.size,0,none⟩) (.inr (Hm _)) _).set (p:=⟨w.heap.size,1,none⟩) (.inr (Hm _)) _).set (p:=⟨w.heap.size,2,none⟩) (.inr (Hm _)) _).alloc _).drew⟩
def Rg.ty{w:World}{F:Nat->Prop}{rb room:Nat}{Q:List It}(h:Rg w F rb room Q){b:Nat}(a:F b):∃cs t,w.heap[b]? =some (.cells cs t (0,0))/\(t=331\/t=317):=by
 obtain⟨v,S,fr,n,rfl,hm,ok,d⟩:=h;rcases a with rfl|a
 ·exact⟨_,_,hm.top.is,.inl rfl⟩
 ·obtain⟨cur,c⟩:=iH hm.row a;exact⟨_,_,c,.inr rfl⟩
def Rg.ne{w:World}{F:Nat->Prop}{rb room:Nat}{Q:List It}(h:Rg w F rb room Q){b:Nat}{cs:List Value}{t:TypeId}(c:ag w b cs t)(d:t≠331)(e:t≠317):¬F b:=λhf=>by
 obtain⟨f,i,g,a⟩:=h.ty hf;have:=c.is.symm.trans g;simp only[Option.some.injEq,Obj.cells.injEq]at this;rcases a with a|a
 ·exact d (this.2.1.trans a)
 ·exact e (this.2.1.trans a)
def Rg.By{w:World}{F:Nat->Prop}{rb room:Nat}{Q:List It}(h:Rg w F rb room Q){base size n:Nat}{e:TypeId}{v:Value}{xs:List Value}(c:w.ownsRow base e size v n xs)(d:e≠331)(f:e≠317):∀b,v.ownBlock=some b->¬F b:=λb g hf=>by
 obtain⟨i,l,j,a⟩:=h.ty hf;obtain⟨cur,k⟩:=iH c g;have:=k.symm.trans j;simp only[Option.some.injEq,Obj.cells.injEq]at this;rcases a with a|a
 ·exact d (this.2.1.trans a)
 ·exact f (this.2.1.trans a)
def D3{w:World}{a room p m:Nat}{v1 v2:Value}{G:Nat->Prop}(q:It)(Q:List It)(c:ag w a [v1,v2,.int .i64 room,.int .i64 m] 274)(E:Rg w G p room (q::Q))(I:¬G a)(hm:1<=m/\m<=4096)
    (HF:∀W,Kp ae w W->Calls Tryz.prog 232 #[.pointer (some ⟨a,0,none⟩)] W λe w'=>e=.returned (.pointer (some ⟨p,0,none⟩))/\W=w'):
    Calls Tryz.prog 230 #[.pointer (some ⟨a,0,none⟩)] w λe w'=>e=.returned (.tuple #[.int .u64 q.ao,.agg (ix q.x).toArray,.bool true])/\ag w' a [v1,v2,.int .i64 room,.int .i64 ((m:Int)-1)] 274/\Rg w' G p room Q/\Kp (λb=>b=a\/G b) w w':=by
 have HF:=aa HF;have L:=aa (λW (k:Kp ae w W)=>Bu (E.old k));have o:=aa (λb (c:G b)=>E.lt c);have J:=aa c;have K:=aa I;obtain⟨r,⟨fl,id,ln⟩⟩:=q;clear c E I;show Calls _ _ _ _ λe w'=>e=.returned (.tuple #[.int .u64 (r:Int),.agg #[.int .u32 (fl:Int),.int .u32 (id:Int),.int .u64 (ln:Int)],.bool true])/\_;have M:=aa (ag.new w [.int .u32 0,.int .u32 0,.int .u64 0] 148);have D:=aa ((Kp.refl ae w).alloc (.cells #[.int .u32 0,.int .u32 0,.int .u64 0] 148));go_enter Tryz.func230,Tryz.ntmps230;go_wp2_with fail;refine(HF.out _ D.out).mono ?_;rintro e w1 ⟨rfl,rfl⟩;go_wp2_with fail;refine(L.out _ D.out).mono ?_;rintro e g ⟨rfl,s,h⟩;have l:=aa (M.out.kp h (λx=>by have:=o.out _ x;omega));have f:=aa ((J.out.kp D.out (λx=>x)).kp h K.out);have t:Hid (Kp G w g):=aa ((D.out.mono (λ_ _ x=>x.elim)).trans h);have u:=aa s;clear h s;have F:w.heap.size<g.heap.size:=l.out.lt;have N:=f.out.aK;have O:=f.out.fz 3;have H:a<g.heap.size:=f.out.lt;simp only[dL];go_wp2_with fail;have v:a≠w.heap.size:=by have:=J.out.lt;omega
 have i:Kp (λb=>b=a) g (g.setCell ⟨a,3,none⟩ (.int .i64 ((m:Int)-1))):=(Kp.refl (λb=>b=a) g).set (p:=⟨a,3,none⟩) (.inl rfl) _;have y:=aa (f.out.set 3 (.int .i64 ((m:Int)-1)));have d:=aa (l.out.kp i (λe=>v e.symm));have z:=aa (u.out.kp i (λb c e=>K.out (by rw[<-e];exact c)));have A:Hid (Kp (λb=>b=a\/G b) w (g.setCell ⟨a,3,none⟩ (.int .i64 ((m:Int)-1)))):=aa ((t.out.mono (λb _ c=>.inr c)).trans (i.mono (λb _ c=>.inl c)));have hsz:(g.setCell ⟨a,3,none⟩ (.int .i64 ((m:Int)-1))).heap.size=g.heap.size:=by simp[World.setCell]
 clear i N O u l f t;obtain⟨B,C⟩:∃B,g.setCell ⟨a,3,none⟩ (.int .i64 ((m:Int)-1))=B:=⟨_,rfl⟩
 rw[C]at hsz y d z A ⊢
 rw[<-hsz]at F H ⊢
 clear C hsz;have P:=d.out.ai;have b1:=d.out.aj;have b2:=d.out.aq;have bf:=λj=>d.out.fz j;go_region
 all_goals
    go_wp2_with fail;have n:Kp (λb=>b=w.heap.size) B (((((B.setCell ⟨w.heap.size,0,none⟩ (.int .u32 (fl:Int))).setCell ⟨w.heap.size,1,none⟩ (.int .u32 (id:Int))).setCell ⟨w.heap.size,2,none⟩ (.int .u64 (ln:Int))).alloc (.cells #[.int .u64 (r:Int),.int .u32 (fl:Int),.int .u32 (id:Int),.int .u64 (ln:Int)] 317)).drew):=(((((Kp.refl (λb=>b=w.heap.size) B).set (p:=⟨w.heap.size,0,none⟩) (.inl rfl) _).set (p:=⟨w.heap.size,1,none⟩) (.inl rfl) _).set (p:=⟨w.heap.size,2,none⟩) (.inl rfl) _).alloc _).drew;refine dA (by exact rfl) (((((d.out.set 0 (.int .u32 (fl:Int))).set 1 (.int .u32 (id:Int))).set 2 (.int .u64 (ln:Int))).alloc _).drew) _ Tryz.underlying148 rfl c7 (by exact rfl) ⟨rfl,y.out.kp n v,z.out.kp n (λb c e=>by have:=o.out b c;omega),A.out.then n (λb c e=>by omega)⟩
def zr{b:List (List It)}{i:Nat}{q:It}{Q:List It}(h:b[i]? =some (q::Q)):eO (b.set i Q)+1=eO b:=by
 induction b generalizing i with
 |nil=>simp at h
 |cons a r c=>
  cases i with
  |zero=>
   simp only[Jd,Option.some.injEq]at h;subst h;simp[eO];omega
  |succ i=>
   have:=c (i:=i) (by simpa using h);simp only[eO,IE,HA,IK]at*;omega
def FW{w:World}{F:Nat->Prop}{o room:Nat}{B:List Nat}{f:List (List It)}{i:Nat}{q:It}{Q:List It}(h:Qu w F o room B f)(hf:gh f=some i)(s:f[i]? =some (q::Q)):
    Calls Tryz.prog 230 #[.pointer (some ⟨o,0,none⟩)] w λe w'=>e=.returned (.tuple #[.int .u64 q.ao,.agg (ix q.x).toArray,.bool true])/\Qu w' F o room B (f.set i Q)/\Kp F w w':=by
 obtain⟨v1,v2,l,t,rfl,hm⟩:=h;have hi:i<f.length:=(HD.1 s).1;have g:i<l.length:=by rw[hm.plen];exact hi
 have hp:=Hn g;have p:=hm.rings i _ _ hp s;have ht:=zr s;have u:l.getD i 0=l[i]:=by rw[Hx,hp];rfl
 have C:=p.ne hm.top (by decide) (by decide);have D:=p.By hm.prow (by decide) (by decide);have E:=p.By hm.brow (by decide) (by decide);have n1:=aA hm.prow hm.top (by decide);have n2:=aA hm.brow hm.top (by decide)
 refine(D3 q Q hm.top p C (by have:=hm.tot;omega) (λW k=>by
  have:=v8 (hm.old k);unfold nP at this;rw[hf]at this
  simp only at this;rw[u]at this
  exact this)).mono ?_
 rintro e w' ⟨he,G,v,r⟩;have m:∀b,(∃j,j<l.length/\j≠i/\t j b)->¬(b=o\/t i b):=λb ⟨j,y,z,hz⟩ a=>by
  rcases a with rfl|a
  ·have A:j<f.length:=by rw[<-hm.plen];exact y
   exact(hm.rings j _ _ (Hn y) (Hn A)).ne hm.top (by decide) (by decide) hz
  ·exact hm.apart j i b y g z hz a
 refine⟨he,⟨v1,v2,l,t,rfl,{hm with top:= ?_,prow:=au hm.prow r (λb hz a=> ?_),brow:=au hm.brow r (λb hz a=> ?_),plen:=by rw[Hr];exact hm.plen,blen:=by rw[Hr];exact hm.blen,few:=by rw[Hr];exact hm.few,tot:=⟨by have:=hm.tot;omega,hm.tot.2⟩,rings:=λj H Q' c d=> ?_}⟩,r.mono (λb _ a=> ?_)⟩
 ·have n:((eO (f.set i Q):Nat):Int)=(eO f:Int)-1:=by omega
  rw[n];exact G
 ·rcases a with rfl|a
  ·exact n1 hz
  ·exact D b hz a
 ·rcases a with rfl|a
  ·exact n2 hz
  ·exact E b hz a
 ·by_cases n:j=i
  ·subst n;rw[H8 hi]at d
   injection d with d;subst d;rw[hp]at c
   injection c with c;subst c;exact v
  ·rw[HL (λI=>n I.symm)]at d
   exact(hm.rings j H Q' c d).kp r (λb J=>m b ⟨j,(HD.1 c).1,n,J⟩)
 ·rcases a with rfl|a
  ·exact .inl rfl
  ·exact .inr (.inr (.inr ⟨i,g,a⟩))
def GX:gL Tryz.prog 272 313 (.pointer none) 1 8:=⟨Tryz.underlying272,by kernel_rfl,rfl,by decide⟩
structure Em (w wr:World) (v:Value) (ps:List Nat) (room k:Nat):Prop where
 row:wr.ownsRow w.heap.size 313 1 v k (ps.map pR)
 len:ps.length=k
 rings:∀(i p:Nat),ps[i]? =some p->ag wr p [.slice none 0 0,.int .i64 0,.int .i64 0,.int .i64 room] 331/\w.heap.size<=p
 inj:∀(i j p:Nat),ps[i]? =some p->ps[j]? =some p->i=j
 kp:Kp ae w wr
def Em.step{w wr w1 W m:World}{v r:Value}{c:List Nat}{room k rb:Nat}(h:Em w wr v c room k)(g:Kp ae wr w1)(n:ag w1 rb [.slice none 0 0,.int .i64 0,.int .i64 0,.int .i64 room] 331)(B:wr.heap.size<=rb)
    (d:Kp ae w1 W) (y:m.ownsRow w.heap.size 313 1 r (k+1) (c.map pR++[pR rb])) (s:W.grownBy m v.ownBlock):Em w m r (c++[rb]) room (k+1):=by
 have t:W.ownsRow w.heap.size 313 1 v k (c.map pR):=au (au h.row g (λ_ _ x=>x)) d (λ_ _ x=>x);have u:∀p,ag W p [.slice none 0 0,.int .i64 0,.int .i64 0,.int .i64 room] 331->ag m p [.slice none 0 0,.int .i64 0,.int .i64 0,.int .i64 room] 331:=λp hp=>hp.grown s (λe=>aA t hp (by decide) e.symm);have l:∀(i p:Nat),c[i]? =some p->p<wr.heap.size:=λi p hp=>(h.rings i p hp).1.lt;have a:∀(i p:Nat),(c++[rb])[i]? =some p->c[i]? =some p\/(i=c.length/\p=rb):=λi p hp=>by
  by_cases hi:i<c.length
  ·rw[Jf hi]at hp;exact .inl hp
  ·rw[Jg (by omega)]at hp
   obtain⟨f,o⟩:=HD.1 hp;simp only[Hs,Jj]at f;have z:i-c.length=0:=by omega
   simp only[z,K9]at o;exact .inr ⟨by omega,o.symm⟩
 refine⟨by rw[HE];exact y,by rw[HK,h.len];rfl,λi p hp=> ?_,λi j p hi A=> ?_,((h.kp.trans g).trans d).grown s (λb n=>.inr (an t n).1)⟩
 ·rcases a i p hp with f|⟨_,rfl⟩
  ·exact⟨u p (((h.rings i p f).1.kp g (λx=>x)).kp d (λx=>x)),(h.rings i p f).2⟩
  ·exact⟨u _ (n.kp d (λx=>x)),by have:=h.kp.size;omega⟩
 ·rcases a i p hi with f|⟨f,o⟩<;>rcases a j p A with q|⟨q,C⟩
  ·exact h.inj i j p f q
  ·have:=l i p f;omega
  ·have:=l j p q;omega
  ·omega
def Bz{w:World}{s room n c:Nat}{v1:Value}{u:Option Addr}{m:Int}(l:ag w s [v1,.slice u n c,.int .i64 room,.int .i64 m] 274)(y:1<=room)(G:room<=4096)(H:n<=32):
    Calls Tryz.prog 120 #[.pointer (some ⟨s,0,none⟩)] w λe w'=>∃v h,e=.returned v/\Em w w' v h room n:=by
 have z:=aa l;have c1:=l.aj;clear l;go_enter Tryz.func120,Tryz.ntmps120;go_wp2_with fail;clear c1;go_loopw [3,11] (λv i0 wr=>∃(k:Nat) (h:List Nat),i0=.int .i64 k/\k<=n/\Hid (Em w wr v h room k)) (λ_ i0 _=>n-(intOf i0).toNat)
 case atStart=>exact⟨0,[],rfl,Hv _,⟨⟨rfl,.inl ⟨rfl,rfl⟩⟩,rfl,λi p hp=>by simp at hp,λi j p hp=>by simp at hp,Kp.refl _ _⟩⟩
 case round=>
  obtain⟨k,h,rfl,I,f⟩:=hrel;by_cases A:k<n
  ·have B:(k:Int)<n:=by omega
   have g:=z.out.kp f.out.kp (λx=>x);have C:=g.aq;clear g;go_wp2_with fail;refine(Dy room y (by omega) _).mono ?_;rintro e w1 ⟨rb,rfl,hm,o,d⟩;have D:=aa hm.top;have q:=aa d;have r:=aa (au (au f.out.row d (λ_ _ x=>x)) ((Kp.refl ae w1).alloc (.cells #[.pointer (some ⟨rb,0,none⟩)] 313)) (λ_ _ x=>x));have E:=(f.out.kp.trans d).size;clear hm d C
   go_wp2_with(first
    |(refine eW GX (.tmp 21) (.tmp 23) rfl rfl w.heap.size r.out [.pointer (some ⟨rb,0,none⟩)] rfl rfl rfl (fr:=(0,0)) (jr _ _ (by simp)) rfl (by omega) (by omega) (by simp;omega) ?_;intro g8 t J b a
      have F:=aa (f.out.step q.out D.out o ((Kp.refl ae w1).alloc _) b a)
      clear b a))
   go_roundw
   case rel=>exact⟨k+1,_,by go_num,by omega,F.out⟩
   case measure=>simp[intOf];omega
  ·obtain rfl:k=n:=by omega
   go_wp2_with fail;go_ret;exact⟨_,_,rfl,f.out⟩
def qP(n:Nat):eO (List.replicate n ([]:List It))=0:=by
 unfold eO;rw[List.map_replicate];simp
def qQ{α:Type}(n i:Nat)(a:α):(List.replicate n a).getD i a=a:=by
 rw[Hx];by_cases h:i<n
 ·rw[I2,Hl h];rfl
 ·rw[H_ (by simpa using h)];rfl
def xN{α:Type}(f:α->Value)(l:List α):l.flatMap (λx=>[f x])=l.map f:=by
 induction l with
 |nil=>rfl
 |cons a r b=>simp[Iv,b]
def al{P:Program}{f:Nat}{a:Array Value}{w:World}{Q:Ending->World->Prop}(h:∀PP:Ending->World->Prop,Hid (∀e w',Q e w'->PP e w')->Calls P f a w PP):Calls P f a w Q:=h Q (aa λ_ _ h=>h)
def FX(room n:Nat)(X:1<=room)(S:room<=4096)(n1:1<=n)(n2:n<=32)(w:World):
    Calls Tryz.prog 95 #[.int .i64 room,.int .i64 n] w λe w'=>∃T F,e=.returned (.tuple #[.pointer (some ⟨T,0,none⟩),.int .i64 0])/\Qu w' F T room (List.replicate n 0) (List.replicate n [])/\(∀b,F b->w.heap.size<=b)/\Kp ae w w':=by
 have g:=ew (P:=Tryz.prog) vV (λx:Nat=>[e0 x]) (λ_=>rfl) 0 rfl n (by omega) (by omega);rw[xN]at g
 have Y:¬(room:Int)<1:=by omega
 have Z:¬(4096:Int)<room:=by omega
 have ac:¬(n:Int)<1:=by omega
 have ad:¬(32:Int)<n:=by omega
 have r:((List.replicate n 0).map e0).length=n:=by simp
 obtain⟨h,s⟩:∃h,(List.replicate n 0).map e0=h:=⟨_,rfl⟩
 rw[s]at g r
 have U:=g w;have V:=aa (nN (w:=w.alloc (.cells h.toArray 38)) 1 n (ag.new w h 38) (by rw[r];omega) (by unfold maxLen;omega));have z:=aa ((Kp.refl ae w).alloc (.cells h.toArray 38));have A:(w.alloc (.cells h.toArray 38)).heap.size=w.heap.size+1:=by simp
 clear g r;have t:=ag.new (w.alloc (.cells h.toArray 38)) [.slice none 0 0,.slice (some ⟨w.heap.size,0,none⟩) n n,.int .i64 room,.int .i64 0] 274;rw[A]at t
 have u:=(Kp.refl ae (w.alloc (.cells h.toArray 38))).alloc (.cells #[.slice none 0 0,.slice (some ⟨w.heap.size,0,none⟩) n n,.int .i64 room,.int .i64 0] 274);have W:=aa t;have G:=aa (au V.out u (λ_ _ x=>x));have H:=aa (z.out.trans u);have B:Hid (((w.alloc (.cells h.toArray 38)).alloc (.cells #[.slice none 0 0,.slice (some ⟨w.heap.size,0,none⟩) n n,.int .i64 room,.int .i64 0] 274)).heap.size=w.heap.size+2):=aa (by simp);have I:=aa s;clear u t A V z s;refine al ?_;intro PP af;go_enter Tryz.func95,Tryz.ntmps95;go_wp2_with fail;refine(Bz W.out X S n2).mono ?_;rintro e J ⟨v,f,rfl,c⟩;obtain⟨vo,vc,rfl⟩:=aN c.row;have ah:Hid (∃v,v=Value.slice vo n vc):=aa ⟨_,rfl⟩;have k:=W.out.kp c.kp (λx=>x);have K:=aa k;have L:=aa (au G.out c.kp (λ_ _ x=>x));have M:=aa (H.out.trans c.kp);have m:=aa c;have c0:=k.ai;have cf:=k.fz 0;have hsz:=c.kp.size;clear c k;go_wp2_with fail;obtain⟨v,hv⟩:=ah.out;rw[<-hv]at m ⊢
 have l:Kp (λb=>b=(w.heap.size+1)) J (J.setCell ⟨w.heap.size+1,0,none⟩ v):=(Kp.refl (λb=>b=(w.heap.size+1)) J).set (p:=⟨w.heap.size+1,0,none⟩) (.inl rfl) _;have C:∀i p,f[i]? =some p->(w.heap.size+1)<p:=λi p hp=>by
  have:=(m.out.rings i p hp).2;rw[B.out]at this;omega
 have D:∀b,v.ownBlock=some b->(w.heap.size+1)<b:=λb a=>by
  have:=(an m.out.row a).1;rw[B.out]at this;omega
 have hp:yr (List.replicate n 0):=λi hi=>by rw[qQ,qQ];exact Hm _
 refine af.out _ _ ⟨(w.heap.size+1),_,rfl,⟨v,.slice (some ⟨w.heap.size,0,none⟩) n n,f,λi=>mS (f.getD i 0) (.slice none 0 0),rfl,?_⟩,?_,?_⟩
 ·exact {top:=by rw[qP];exact K.out.set 0 v
         prow:=au (gm (by rw[m.out.len];exact m.out.row) (Hv _)) l (λb a e=>by have:=D b a;omega)
         brow:=by
          rw[Ic,I.out];exact au L.out l (λb a e=>by simp only[Value.ownBlock,Option.some.injEq]at a;omega)
         plen:=by rw[m.out.len,Ic]
         blen:=by rw[Ic,Ic]
         few:=by rw[Ic];exact⟨n1,n2⟩
         tot:=by rw[qP];omega
         up:=hp
         bok:=λb a=>by rw[(K4.1 a).2];decide
         rings:=λi p Q N y=>by
          have o:Q=[]:=by
           rw[I2]at y
           split at y
           ·injection y with y;exact y.symm
           ·cases y
          subst o;have q:f.getD i 0=p:=by rw[Hx,N];rfl
          refine⟨.slice none 0 0,[],0,0,by rw[q],⟨(m.out.rings i p N).1.kp l (λe=>by have:=C i p N;omega),⟨rfl,.inl ⟨rfl,rfl⟩⟩⟩,hk.nil room,S⟩
         apart:=λi j b hi hj O o q=>by
          have d:=Hn hi;have E:=Hn hj;have R:f.getD i 0=f[i]:=by rw[Hx,d];rfl
          have e2:f.getD j 0=f[j]:=by rw[Hx,E];rfl
          rcases o with o|o
          ·rcases q with q|q
           ·rw[R]at o;rw[e2]at q
            exact O (m.out.inj i j b (by rw[d,o]) (by rw[E,q]))
           ·simp[Value.ownBlock]at q
          ·simp[Value.ownBlock]at o}
 ·intro b a;rcases a with rfl|a|a|⟨i,hi,a⟩
  ·omega
  ·have:=D b a;omega
  ·simp only[Value.ownBlock,Option.some.injEq]at a;omega
  ·rcases a with a|a
   ·have d:=Hn hi;have R:f.getD i 0=f[i]:=by rw[Hx,d];rfl
    have:=C i _ d;rw[a,R];omega
   ·simp[Value.ownBlock]at a
 ·exact M.out.then l (λb a e=>by omega)
def mh{w:World}{b fl id ln:Nat}(h:ag w b [.int .u32 fl,.int .u32 id,.int .u64 ln] 148):
    ∀W,Kp ae w W->(Instr.loadAt 148 (.pointer (some ⟨b,0,none⟩))).run Tryz.prog W=.ok (.agg #[.int .u32 fl,.int .u32 id,.int .u64 ln]) W:=λW a=>
 run_loadAt_mid W b 0 148 [.int .u32 fl,.int .u32 id,.int .u64 ln] _ (λj v c=>by rw[HR];exact a.cell (h.cell j c) (λx=>x)) Tryz.underlying148 rfl c7
def u_(w:World)(g2 p room:Nat)(G:Nat->Prop)(Q:List It)(r fl id ln:Nat):Prop:=
 ∀W,Kp (λb=>b=g2) w W->Calls Tryz.prog 235 #[.pointer (some ⟨p,0,none⟩),.agg #[.int .u64 r,.int .u32 fl,.int .u32 id,.int .u64 ln]] W λe w'=>e=.returned (.bool true)/\∃a,Rg w' a p room (Q++[⟨r,⟨fl,id,ln⟩⟩])/\Kp G W w'/\Nw W G a
def kJ(w:World)(c g1 c1 g2 d n room m p k:Nat)(G:Nat->Prop)(Q:List It)(a:List Nat)(r fl id ln:Nat)(e:Ending)(w':World):Prop:=
 e=.returned (.tuple #[.int .i64 k,.bool true])/\ag w' c [.slice (some ⟨g1,0,none⟩) n c1,.slice (some ⟨g2,0,none⟩) n d,.int .i64 room,.int .i64 ((m:Int)+1)] 274/\w'.ownsRow 0 38 1 (.slice (some ⟨g2,0,none⟩) n d) n (a.map e0)/\
  (∃f,Rg w' f p room (Q++[⟨r,⟨fl,id,ln⟩⟩])/\Nw w G f)/\Kp (λb=>b=c\/b=g2\/G b) w w'
def mX{w o q g:World}{a g1 c1 g2 t n room m p k:Nat}{G s:Nat->Prop}{Q:List It}{i:List Nat}{r fl id ln:Nat}(j:g2≠a/\¬G g2)(v:¬G a)
    (c:ag o a [.slice (some ⟨g1,0,none⟩) n c1,.slice (some ⟨g2,0,none⟩) n t,.int .i64 room,.int .i64 m] 274) (y:o.ownsRow 0 38 1 (.slice (some ⟨g2,0,none⟩) n t) n (i.map e0)) (l:Kp (λb=>b=g2) w o)
    (d:Kp ae o q) (z:Rg g s p room (Q++[⟨r,⟨fl,id,ln⟩⟩])) (f:Kp G q g) (A:Nw q G s) (hF:¬s a):
    kJ w a g1 c1 g2 t n room m p k G Q i r fl id ln (.returned (.tuple #[.int .i64 k,.bool true])) (g.setCell ⟨a,3,none⟩ (.int .i64 ((m:Int)+1))):=by
 have u:Kp (λb=>b=a) g (g.setCell ⟨a,3,none⟩ (.int .i64 ((m:Int)+1))):=(Kp.refl (λb=>b=a) g).set (p:=⟨a,3,none⟩) (.inl rfl) _;have B:w.heap.size<=q.heap.size:=by have:=l.size;have:=d.size;omega
 refine⟨rfl,(((c.kp d (λx=>x)).kp f v).set 3 _),au (au (au y d (λ_ _ x=>x)) f (λb c x=> ?_)) u (λb c x=> ?_),⟨s,z.kp u (λb c e=>hF (e▸c)),λb c=> ?_⟩,?_⟩
 ·have:g2=b:=Option.some.inj c;exact j.2 (this▸x)
 ·have:g2=b:=Option.some.inj c;exact j.1 (this.trans x)
 ·rcases A b c with h|h
  ·exact .inl h
  ·exact .inr (by omega)
 ·exact(((l.mono (λb _ e=>.inr (.inl e))).trans (d.mono (λ_ _ x=>x.elim))).trans (f.mono (λb _ e=>.inr (.inr e)))).trans (u.mono (λb _ e=>.inl e))
def BA{w:World}{I g1 c1 g2 c2 n room m p A:Nat}{G:Nat->Prop}{Q:List It}{i:List Nat}(r fl id ln:Nat)
    (hb:ag w I [.slice (some ⟨g1,0,none⟩) n c1,.slice (some ⟨g2,0,none⟩) n c2,.int .i64 room,.int .i64 m] 274) (ho:w.ownsRow 0 38 1 (.slice (some ⟨g2,0,none⟩) n c2) n (i.map e0))
    (ac:w.cell? ⟨g1,A,none⟩=some (.pointer (some ⟨p,0,none⟩))) (ad:g2≠I/\¬G g2) (af:g1≠g2) (hG:¬G I) (hm:m<room) (aG:room<=4096) (hn:1<=n/\n<=32) (hl:i.length=n) (hA:e8 i r (n-1)=A)
    (E:u_ w g2 p room G Q r fl id ln) (hB:¬(A=0/\r<i.getD 0 0)):
    Calls Tryz.prog 231 #[.pointer (some ⟨I,0,none⟩),.int .u64 r,.agg #[.int .u32 fl,.int .u32 id,.int .u64 ln]] w λe w'=>kJ w I g1 c1 g2 c2 n room m p A G Q (i.set A r) r fl id ln e w':=by
 refine al ?_;intro PP aS;have F:Hid (∀W,Kp (λb=>b=g2) w W->Calls Tryz.prog 235 #[.pointer (some ⟨p,0,none⟩),.agg #[.int .u64 r,.int .u32 fl,.int .u32 id,.int .u64 ln]] W λe w'=>e=.returned (.bool true)/\∃F',Rg w' F' p room (Q++[⟨r,⟨fl,id,ln⟩⟩])/\Kp G W w'/\Nw W G F'):=aa E;have C:=aa ad;have ak:=aa af;have Z:=aa hG;have aI:=aa hB;have aT:=aa hl;have ao:=aa ((an ho rfl).2);have aW:=aa hA;have av:A<=n-1:=by rw[<-hA];exact ku _ _ _
 have aX:(m:Int)<room:=by omega
 have aU:=aa (ag.new w [.int .u32 fl,.int .u32 id,.int .u64 ln] 148);have o:=aa ((Kp.refl ae w).alloc (.cells #[.int .u32 fl,.int .u32 id,.int .u64 ln] 148));have D:=aa (hb.kp o.out (λx=>x));have aw:=aa (au ho o.out (λ_ _ x=>x));have ax:=aa (o.out.cell ac (λx=>x));have y2:=D.out.aq;have y3:=D.out.aK;clear E ad af hG hB hl hA hb ho ac;go_enter Tryz.func231,Tryz.ntmps231;go_wp2_with fail;have aJ:decide ((room:Int)<=m)=false:=by rw[Io];omega
 have az:decide (room<=m)=false:=by rw[Io];omega
 refine ar 12 (by kernel_rfl) (λ_ _ _ _ _ h=>h) ?_;simp only[aO]
 repeat((first
    |refine ay (by rfl) (by as_aux_lemma=>intro W H;have aV:=H.cell y3 (λx=>x);have e1:=H.cell y2 (λx=>x);have e9:=aJ;have a3:=az;go_simp;exact rfl) ?_
    |refine ah (by rfl) ?_);simp only[Act.put,aH])
 intro W1 l;have aA:=aa (o.out.trans l);have aB:=aa (D.out.kp l (λx=>x));have aL:=aa (au aw.out l (λ_ _ x=>x));have aM:=aa (aU.out.kp l (λx=>x));have aN:=aa (l.cell ax.out (λx=>x));have y1:=aB.out.aj;clear l y2 y3 D aw aU ax o;have aY:IntKind.i64.wrap ((n:Int)-1)=((n-1:Nat):Int):=by rw[H3];omega
 go_wp2_with fail;clear y1;go_loopw [8] (λi0 wr=>∃k:Nat,i0=.int .i64 k/\k<=n-1/\Hid (e8 i r k=A)/\Hid (Kp ae W1 wr)) (λi0 _=>(intOf i0).toNat)
 case atStart=>exact⟨n-1,rfl,Hm _,aW.out,Kp.refl _ _⟩
 case round=>
  obtain⟨k,rfl,hk,J,f⟩:=hrel;have aZ:(k:Int)<n:=by omega
  have K:=aa (aB.out.kp f.out (λx=>x));have HOr:=aa (au aL.out f.out (λ_ _ x=>x));have aC:=aa (aM.out.kp f.out (λx=>x));have aD:=aa (f.out.cell aN.out (λx=>x));have r1:=K.out.aj
  have rk:wr.cell? ⟨g2,k,none⟩=some (.int .u64 (i.getD k 0)):=bu HOr.out k (by
   rw[H2,Hx,Hn (by rw[aT.out];omega)];rfl)
  have r0:wr.cell? ⟨g2,0,none⟩=some (.int .u64 (i.getD 0 0)):=bu HOr.out 0 (by
   rw[H2,Hx,Hn (by rw[aT.out];omega)];rfl)
  by_cases h0:k=0
  ·subst h0;have L:A=0:=by rw[<-J.out];rfl
   subst L;obtain⟨b0,M⟩:∃b0,i.getD 0 0=b0:=⟨_,rfl⟩
   have a0:¬r<b0:=λh=>aI.out ⟨rfl,by rw[M];exact h⟩;rw[M]at r0 rk
   clear M av;have aE:decide ((r:Int)<b0)=false:=by rw[Io];omega
   have aF:decide (r<b0)=false:=by rw[Io];omega
   have N:(0:Int)<n:=by omega
   have O:0<n:=by omega
   have P:(0:Int)<n:=by omega
   have R:0<n:=by omega
   have aP:g2<w.heap.size:=ao.out;have a:Kp (λb=>b=g2) wr (wr.setCell ⟨g2,0,none⟩ (.int .u64 r)):=(Kp.refl (λb=>b=g2) wr).set (p:=⟨g2,0,none⟩) (.inl rfl) _;have c:=aa (K.out.kp a (λe=>C.out.1 e.symm));have S:=aa (aC.out.kp a (λe=>by omega));have T:=aa (a.cell aD.out (λe=>ak.out e));have U:Hid ((wr.setCell ⟨g2,0,none⟩ (.int .u64 r)).ownsRow 0 38 1 (.slice (some ⟨g2,0,none⟩) n c2) n ((i.set 0 r).map e0)):=aa (by rw[Is];exact iG HOr.out 0 _);have q:Hid (Kp (λb=>b=g2) w (wr.setCell ⟨g2,0,none⟩ (.int .u64 r))):=aa (((aA.out.trans f.out).mono (λ_ _ x=>x.elim)).trans a);have z:=gH HOr.out 0;clear a;go_wp2_with fail;generalize wr.setCell ⟨g2,_,none⟩ (.int .u64 (r:Int))=W4 at*;have xp:=T.out;have q0:=c.out.ai;have V:=aa (mh S.out);go_wp2_with fail;refine ar 10 (by kernel_rfl) (λ_ _ _ _ _ h=>h) ?_;simp only[aO]
   repeat((first
    |refine bc (by exact rfl) (bL rfl rfl V.out) ?_
    |refine ay (by rfl) (by as_aux_lemma=>intro W H;have aV:=H.cell q0 (λx=>x);have e1:=H.cell xp (λx=>x);have e2:=N;have e3:=O;have e4:=P;have e5:=R;go_simp;exact rfl) ?_
    |refine ah (by rfl) ?_);simp only[Act.put,aH])
   intro W5 d;have s:=aa d;go_wp2_with fail;refine(F.out W5 (q.out.then d (λb hb x=>x.elim))).mono ?_;rintro e W6 ⟨rfl,F',t,g,u⟩;have X:=aa t;have Y:=aa g;have v:=aa u;have y:=aa ((c.out.kp d (λx=>x)).kp g Z.out);have q3:=y.out.aK;have qf:=y.out.fz 3;clear d t g u q0 xp;go_wp2_with fail;have aQ:I<W5.heap.size:=(c.out.kp s.out (λx=>x)).lt
   exact aS.out _ _ (mX C.out Z.out c.out U.out q.out s.out X.out Y.out v.out (λh=>by
    rcases v.out _ h with h|h
    ·exact Z.out h
    ·omega))
  ·obtain⟨j,rfl⟩:∃j,k=j+1:=⟨k-1,by omega⟩
   obtain⟨bk,B⟩:∃bk,i.getD (j+1) 0=bk:=⟨_,rfl⟩
   rw[B]at rk
   have a1:decide ((0:Int)<((j+1:Nat):Int))=true:=by rw[HI];omega
   have D4:((((j+1:Nat):Int))==0)=false:=by rw[HM];omega
   by_cases hle:bk<=r
   ·have L:A=j+1:=by rw[<-J.out];unfold e8;rw[Hl (by rw[B];exact hle)]
    subst L;clear h0 av B;have aE:decide ((r:Int)<bk)=false:=by rw[Io];omega
    have aF:decide (r<bk)=false:=by rw[Io];omega
    have N:(j:Int)+1<n:=by omega
    have O:j+1<n:=by omega
    have P:(0:Int)<=(j:Int)+1:=by omega
    have R:((j+1:Nat):Int)<n:=by omega
    have aP:g2<w.heap.size:=ao.out;have a:Kp (λb=>b=g2) wr (wr.setCell ⟨g2,j+1,none⟩ (.int .u64 r)):=(Kp.refl (λb=>b=g2) wr).set (p:=⟨g2,j+1,none⟩) (.inl rfl) _;have c:=aa (K.out.kp a (λe=>C.out.1 e.symm));have S:=aa (aC.out.kp a (λe=>by omega));have T:=aa (a.cell aD.out (λe=>ak.out e));have U:Hid ((wr.setCell ⟨g2,j+1,none⟩ (.int .u64 r)).ownsRow 0 38 1 (.slice (some ⟨g2,0,none⟩) n c2) n ((i.set (j+1) r).map e0)):=aa (by rw[Is];exact iG HOr.out (j+1) _);have q:Hid (Kp (λb=>b=g2) w (wr.setCell ⟨g2,j+1,none⟩ (.int .u64 r))):=aa (((aA.out.trans f.out).mono (λ_ _ x=>x.elim)).trans a);have z:=gH HOr.out (j+1);clear a;go_wp2_with fail;generalize wr.setCell ⟨g2,_,none⟩ (.int .u64 (r:Int))=W4 at*;have xp:=T.out;have q0:=c.out.ai;have V:=aa (mh S.out);go_wp2_with fail;refine ar 10 (by kernel_rfl) (λ_ _ _ _ _ h=>h) ?_;simp only[aO]
    repeat((first
     |refine bc (by exact rfl) (bL rfl rfl V.out) ?_
     |refine ay (by rfl) (by as_aux_lemma=>intro W H;have aV:=H.cell q0 (λx=>x);have e1:=H.cell xp (λx=>x);have e2:=N;have e3:=O;have e4:=P;have e5:=R;go_simp;exact rfl) ?_
     |refine ah (by rfl) ?_);simp only[Act.put,aH])
    intro W5 d;have s:=aa d;go_wp2_with fail;refine(F.out W5 (q.out.then d (λb hb x=>x.elim))).mono ?_;rintro e W6 ⟨rfl,F',t,g,u⟩;have X:=aa t;have Y:=aa g;have v:=aa u;have y:=aa ((c.out.kp d (λx=>x)).kp g Z.out);have q3:=y.out.aK;have qf:=y.out.fz 3;clear d t g u q0 xp;go_wp2_with fail;have aQ:I<W5.heap.size:=(c.out.kp s.out (λx=>x)).lt
    exact aS.out _ _ (mX C.out Z.out c.out U.out q.out s.out X.out Y.out v.out (λh=>by
     rcases v.out _ h with h|h
     ·exact Z.out h
     ·omega))
   ·have aR:Hid (e8 i r j=A):=aa (by rw[<-J.out];conv=>rhs;unfold e8
                                     rw[Hk (by rw[B];exact hle)])
    clear h0 B;have aE:decide ((r:Int)<bk)=true:=by rw[HI];omega
    have aF:decide (r<bk)=true:=by rw[HI];omega
    have a2:IntKind.i64.wrap (((j+1:Nat):Int)-1)=(j:Int):=by rw[H3];omega
    go_wp2_with fail;go_roundw
    case rel=>exact⟨j,rfl,by omega,aR.out,f.out⟩
    case measure=>simp[intOf]
def va(a:List Nat)(r b:Nat):Nat:=b-(a.getD 0 0-r)
def BB(f:Nat->Nat)(a:List Nat)(i:Nat)(h:i<a.length):(((a.take i).map f++a.drop i).set i (f a[i]))=(a.take (i+1)).map f++a.drop (i+1):=by
 rw[Kq _ _ (by rw[Hq,HG];omega),Hq,HG];have b:i-min i a.length=0:=by omega
 rw[b,Ii h,I7,HQ h,HE];simp
def BC(f:Nat->Nat)(a:List Nat)(i:Nat)(h:i<a.length):((a.take i).map f++a.drop i)[i]? =some a[i]:=by
 rw[Jg (by rw[Hq,HG];omega),Hq,HG];have b:i-min i a.length=0:=by omega
 rw[b,Ii h];rfl
def BD{w:World}{J g1 c1 g2 K n room m p A:Nat}{G:Nat->Prop}{Q:List It}{a:List Nat}(r fl id ln:Nat)
    (hb:ag w J [.slice (some ⟨g1,0,none⟩) n c1,.slice (some ⟨g2,0,none⟩) n K,.int .i64 room,.int .i64 m] 274) (ho:w.ownsRow 0 38 1 (.slice (some ⟨g2,0,none⟩) n K) n (a.map e0))
    (M:w.cell? ⟨g1,A,none⟩=some (.pointer (some ⟨p,0,none⟩))) (N:g2≠J/\¬G g2) (O:g1≠g2) (hG:¬G J) (hm:m<room) (aD:room<=4096) (hn:1<=n/\n<=32) (hl:a.length=n) (hA:e8 a r (n-1)=A)
    (B:u_ w g2 p room G Q r fl id ln) (P:A=0) (hB:r<a.getD 0 0) (hU:yr a) (c:∀b∈a,b<18446744073709551616):
    Calls Tryz.prog 231 #[.pointer (some ⟨J,0,none⟩),.int .u64 r,.agg #[.int .u32 fl,.int .u32 id,.int .u64 ln]] w λe w'=>kJ w J g1 c1 g2 K n room m p A G Q (a.map (va a r)) r fl id ln e w':=by
 refine al ?_;intro PP be;have R:Hid (∀W,Kp (λb=>b=g2) w W->Calls Tryz.prog 235 #[.pointer (some ⟨p,0,none⟩),.agg #[.int .u64 r,.int .u32 fl,.int .u32 id,.int .u64 ln]] W λe w'=>e=.returned (.bool true)/\∃F',Rg w' F' p room (Q++[⟨r,⟨fl,id,ln⟩⟩])/\Kp G W w'/\Nw W G F'):=aa B;have S:=aa N;have aE:=aa O;have aF:=aa hG;have aG:=aa hB;have aI:=aa hU;have T:=aa c;have aJ:=aa P;have L:=aa hl;have aL:=aa ((an ho rfl).2);have bf:=aa hA;have aM:A<=n-1:=by rw[<-hA];exact ku _ _ _
 have bg:(m:Int)<room:=by omega
 have ba:=aa (ag.new w [.int .u32 fl,.int .u32 id,.int .u64 ln] 148);have o:=aa ((Kp.refl ae w).alloc (.cells #[.int .u32 fl,.int .u32 id,.int .u64 ln] 148));have u:=aa (hb.kp o.out (λx=>x));have U:=aa (au ho o.out (λ_ _ x=>x));have V:=aa (o.out.cell M (λx=>x));have y2:=u.out.aq;have y3:=u.out.aK;clear hU c P B N O hG hB hl hA hb ho M;go_enter Tryz.func231,Tryz.ntmps231;go_wp2_with fail;have aN:decide ((room:Int)<=m)=false:=by rw[Io];omega
 have X:decide (room<=m)=false:=by rw[Io];omega
 refine ar 12 (by kernel_rfl) (λ_ _ _ _ _ h=>h) ?_;simp only[aO]
 repeat((first
    |refine ay (by rfl) (by as_aux_lemma=>intro W Y;have bh:=Y.cell y3 (λx=>x);have e1:=Y.cell y2 (λx=>x);have e9:=aN;have bz:=X;go_simp;exact rfl) ?_
    |refine ah (by rfl) ?_);simp only[Act.put,aH])
 intro W1 d;have aP:=aa (o.out.trans d);have Z:=aa (u.out.kp d (λx=>x));have aQ:=aa (au U.out d (λ_ _ x=>x));have aR:=aa (ba.out.kp d (λx=>x));have aS:=aa (d.cell V.out (λx=>x));have y1:=Z.out.aj;clear d y2 y3 u U ba V o;have bi:IntKind.i64.wrap ((n:Int)-1)=((n-1:Nat):Int):=by rw[H3];omega
 go_wp2_with fail;clear y1;go_loopw [8] (λi0 wr=>∃k:Nat,i0=.int .i64 k/\k<=n-1/\Hid (e8 a r k=A)/\Hid (Kp ae W1 wr)) (λi0 _=>(intOf i0).toNat)
 case atStart=>exact⟨n-1,rfl,Hm _,bf.out,Kp.refl _ _⟩
 case round=>
  obtain⟨k,rfl,hk,F,g⟩:=hrel;have bj:(k:Int)<n:=by omega
  have ac:=aa (Z.out.kp g.out (λx=>x));have HOr:=aa (au aQ.out g.out (λ_ _ x=>x));have aT:=aa (aR.out.kp g.out (λx=>x));have aU:=aa (g.out.cell aS.out (λx=>x));have r1:=ac.out.aj
  have rk:wr.cell? ⟨g2,k,none⟩=some (.int .u64 (a.getD k 0)):=bu HOr.out k (by
   rw[H2,Hx,Hn (by rw[L.out];omega)];rfl)
  have r0:wr.cell? ⟨g2,0,none⟩=some (.int .u64 (a.getD 0 0)):=bu HOr.out 0 (by
   rw[H2,Hx,Hn (by rw[L.out];omega)];rfl)
  by_cases h0:k=0
  ·subst h0;have ad:A=0:=by rw[<-F.out];rfl
   subst ad;obtain⟨t,q⟩:∃t,a.getD 0 0=t:=⟨_,rfl⟩
   have bl:r<t:=by have:=aG.out;rw[q]at this;exact this
   have C:=aa q;rw[q]at r0 rk
   have bb:t<18446744073709551616:=by
    rw[<-q,Hx,Hn (by rw[L.out];omega)];exact T.out _ (Ht _)
   clear q aM;have aV:decide ((r:Int)<t)=true:=by rw[HI];omega
   have aW:decide (r<t)=true:=by rw[HI];omega
   go_wp2_with fail;clear r1 rk r0;go_loopw [63] (λi0 wv=>∃i:Nat,i0=.int .i64 i/\i<=n/\Hid (wv.ownsRow 0 38 1 (.slice (some ⟨g2,0,none⟩) n K) n (((a.take i).map (va a r)++a.drop i).map e0))/\Hid (Kp (λb=>b=g2) wr wv)) (λi0 _=>n-(intOf i0).toNat)
   case atStart=>exact⟨0,rfl,Hv _,aa (by simpa using HOr.out),aa (Kp.refl _ _)⟩
   case round=>
    obtain⟨i,rfl,hi,v,s⟩:=hrel;have bm:g2<w.heap.size:=aL.out;have af:=aa (ac.out.kp s.out (λe=>S.out.1 e.symm));by_cases aX:i<n
    ·have bn:(i:Int)<n:=by omega
     have v1:=af.out.aj;have l:i<a.length:=by rw[L.out];exact aX
     have vi:wr.cell? ⟨g2,i,none⟩=some (.int .u64 a[i]):=bu v.out i (by rw[H2,BC _ _ _ l];rfl);have vf:=gH v.out i;have E:=aa (BB (va a r) a i l);have ak:t<=a[i]:=by
      have:=aI.out i l;rw[C.out,Hx,Hn l]at this
      exact this
     have ao:a[i]<18446744073709551616:=T.out _ (Ht l);obtain⟨f,hf⟩:∃f,va a r a[i]=f:=⟨_,rfl⟩
     have H:f=a[i]-(t-r):=by rw[<-hf];unfold va;rw[C.out]
     rw[hf]at E
     obtain⟨x,hx⟩:∃x,a[i]=x:=⟨_,rfl⟩
     rw[hx]at vi ak ao H
     obtain⟨D,hD⟩:∃D,t-r=D:=⟨_,rfl⟩
     rw[hD]at H
     have bp:IntKind.u64.wrap ((t:Int)-r)=(D:Int):=by rw[HO];omega
     have bq:IntKind.u64.wrap ((x:Int)-D)=(f:Int):=by rw[HO];omega
     have av:Kp (λb=>b=g2) wr (wr.setCell ⟨g2,i,none⟩ (.int .u64 f)):=(Kp.refl (λb=>b=g2) wr).set (p:=⟨g2,i,none⟩) (.inl rfl) _;have aY:=aa (s.out.trans av)
     have aZ:Hid ((wr.setCell ⟨g2,i,none⟩ (.int .u64 f)).ownsRow 0 38 1 (.slice (some ⟨g2,0,none⟩) n K) n (((a.take (i+1)).map (va a r)++a.drop (i+1)).map e0)):=aa (by
      rw[<-E.out,Is];exact iG v.out i _)
     clear hf hx hD H ak ao l av;go_wp2_with fail;go_roundw
     case rel=>exact⟨i+1,by go_num,by omega,aZ,aY⟩
     case measure=>simp[intOf];omega
    ·obtain rfl:i=n:=by omega
     have y:=af;have a0:=aa (aT.out.kp s.out (λe=>by omega));have a1:=aa (s.out.cell aU.out (λe=>aE.out e))
     have a2:Hid (wr.ownsRow 0 38 1 (.slice (some ⟨g2,0,none⟩) i K) i ((a.map (va a r)).map e0)):=aa (by
      have:=v.out;rw[IJ (by rw[L.out];exact Hm _),List.drop_of_length_le (by rw[L.out];exact Hm _),HH]at this
      exact this)
     have aw:Hid (Kp (λb=>b=g2) w wr):=aa (((aP.out.trans g.out).mono (λ_ _ x=>x.elim)).trans s.out);have xp:=a1.out;have a3:(0:Int)<i:=by omega
     have a4:0<i:=by omega
     have a5:(0:Int)<i:=by omega
     have a6:0<i:=by omega
     go_wp2_with fail;have q0:=y.out.ai;have a7:=aa (mh a0.out);go_wp2_with fail;refine ar 10 (by kernel_rfl) (λ_ _ _ _ _ h=>h) ?_;simp only[aO]
     repeat((first
         |refine bc (by exact rfl) (bL rfl rfl a7.out) ?_
         |refine ay (by rfl) (by as_aux_lemma=>intro W Y;have bh:=Y.cell q0 (λx=>x);have e1:=Y.cell xp (λx=>x);have e2:=a3;have e3:=a4;have e4:=a5;have e5:=a6;go_simp;exact rfl) ?_
         |refine ah (by rfl) ?_);simp only[Act.put,aH])
     intro W5 z;have ax:=aa z;go_wp2_with fail;refine(R.out W5 (aw.out.then z (λb hb x=>x.elim))).mono ?_;rintro e W6 ⟨rfl,F',az,I,aA⟩;have a8:=aa az;have a9:=aa I;have aB:=aa aA;have aC:=aa ((y.out.kp z (λx=>x)).kp I aF.out);have q3:=aC.out.aK;have qf:=aC.out.fz 3;clear z az I aA q0 xp;go_wp2_with fail;have br:J<W5.heap.size:=(y.out.kp ax.out (λx=>x)).lt
     exact be.out _ _ (mX S.out aF.out y.out a2.out aw.out ax.out a8.out a9.out aB.out (λh=>by
      rcases aB.out _ h with h|h
      ·exact aF.out h
      ·omega))
  ·obtain⟨j,rfl⟩:∃j,k=j+1:=⟨k-1,by omega⟩
   obtain⟨bk,c⟩:∃bk,a.getD (j+1) 0=bk:=⟨_,rfl⟩
   rw[c]at rk
   have bv:decide ((0:Int)<((j+1:Nat):Int))=true:=by rw[HI];omega
   by_cases hle:bk<=r
   ·have ad:A=j+1:=by rw[<-F.out];unfold e8;rw[Hl (by rw[c];exact hle)]
    have:=aJ.out;omega
   ·have a_:Hid (e8 a r j=A):=aa (by rw[<-F.out];conv=>rhs;unfold e8
                                     rw[Hk (by rw[c];exact hle)])
    clear h0 c;have aV:decide ((r:Int)<bk)=true:=by rw[HI];omega
    have aW:decide (r<bk)=true:=by rw[HI];omega
    have bw:IntKind.i64.wrap (((j+1:Nat):Int)-1)=(j:Int):=by rw[H3];omega
    go_wp2_with fail;go_roundw
    case rel=>exact⟨j,rfl,by omega,a_.out,g.out⟩
    case measure=>simp[intOf]
def pe(b:List Nat)(r:Nat):∀k i,e8 b r k<i->i<=k->r<b.getD i 0
 |0,i,a,c=>by omega
 |k+1,i,a,c=>by
  unfold e8 at a;split at a
  ·omega
  ·rename_i d;by_cases e:i=k+1
   ·subst e;omega
   ·exact pe b r k i a (by omega)
def v_(a:List Nat)(r:Nat):∀k,e8 a r k≠0->a.getD (e8 a r k) 0<=r
 |0,h=>absurd rfl h
 |k+1,h=>by
  unfold e8 at h ⊢;split
  ·rename_i b;exact b
  ·rename_i b;rw[Hk b]at h;exact v_ a r k h
def qR{α:Type}(l:List α)(i j:Nat)(x d:α)(hi:i<l.length):(l.set i x).getD j d=if j=i then x else l.getD j d:=by
 rw[Hx,Hx];by_cases e:j=i
 ·subst e;rw[Hl rfl,H8 hi];rfl
 ·rw[Hk e,HL (λh=>e h.symm)]
def hY(a:List Nat)(r:Nat):(gq a r).length=a.length:=by unfold gq;split<;>simp
def xO{a:List Nat}(h:yr a)(l:1<=a.length)(r:Nat):yr (gq a r):=by
 intro i hi;rw[hY]at hi
 have g:=h i hi;unfold gq;split
 ·have d:∀j,j<a.length->(a.map (λb=>b-(a.getD 0 0-r))).getD j 0=a.getD j 0-(a.getD 0 0-r):=λj f=>by
   have k:a.getD j 0=a[j]:=by rw[Hx,Hn f];rfl
   rw[k,Hx,H2,Hn f];rfl
  rw[d 0 (by omega),d i hi];omega
 ·rename_i m;have n:=ku a r (a.length-1);rw[qR _ _ _ _ _ (by omega),qR _ _ _ _ _ (by omega)];by_cases e:e8 a r (a.length-1)=0
  ·rw[Hl e.symm];by_cases c:i=e8 a r (a.length-1)
   ·rw[Hl c];exact Hm _
   ·rw[Hk c];exact J1 (pe a r (a.length-1) i (by omega) (by omega))
  ·rw[Hk (λc=>e c.symm)];by_cases c:i=e8 a r (a.length-1)
   ·rw[Hl c];have:=v_ a r _ e;have:=h _ (show e8 a r (a.length-1)<a.length by omega);omega
   ·rw[Hk c];exact g
def xP{d:List Nat}(h:∀b∈d,b<18446744073709551616)(r:Nat)(e:r<18446744073709551616):∀b∈gq d r,b<18446744073709551616:=by
 intro b a;unfold gq at a;split at a
 ·obtain⟨x,f,rfl⟩:=Hw.1 a;have:=h x f;omega
 ·rcases Il a with c|c
  ·exact h b c
  ·rw[c];exact e
def tv{b:List (List It)}{i:Nat}{Q:List It}(h:b[i]? =some Q)(x:It):eO (b.set i (Q++[x]))=eO b+1:=by
 induction b generalizing i with
 |nil=>simp at h
 |cons a r c=>
  cases i with
  |zero=>
   simp only[Jd,Option.some.injEq]at h;subst h;simp[eO];omega
  |succ i=>
   have:=c (i:=i) (by simpa using h);simp only[eO,IE,HA,IK]at*;omega
def BE{b:List (List It)}{i:Nat}{Q:List It}(h:b[i]? =some Q):Q.length<=eO b:=by
 induction b generalizing i with
 |nil=>simp at h
 |cons a r c=>
  cases i with
  |zero=>
   simp only[Jd,Option.some.injEq]at h;subst h;simp[eO]
  |succ i=>
   have:=c (i:=i) (by simpa using h);simp only[eO,HA,IK]at*;omega
def D5{w:World}{F:Nat->Prop}{n room:Nat}{g:List Nat}{u:List (List It)}(h:Qu w F n room g u)(hl:eO u<room)(r fl id ln:Nat)(hr:r<18446744073709551616):
    Calls Tryz.prog 231 #[.pointer (some ⟨n,0,none⟩),.int .u64 r,.agg #[.int .u32 fl,.int .u32 id,.int .u64 ln]] w λe w'=>e=.returned (.tuple #[.int .i64 (e8 g r (g.length-1):Nat),.bool true])/\∃I,Qu w' I n room (gq g r) (jd g u r ⟨r,⟨fl,id,ln⟩⟩)/\Kp F w w'/\Nw w F I:=by
 obtain⟨v1,v2,o,v,rfl,hm⟩:=h;obtain⟨A,J⟩:∃A,e8 g r (g.length-1)=A:=⟨_,rfl⟩
 have hle:A<=g.length-1:=by rw[<-J];exact ku _ _ _
 have ae:=hm.few;have C:A<u.length:=by have:=hm.blen;omega
 have x:A<o.length:=by rw[hm.plen];exact C
 have hp:=Hn x;have K:=Hn C;obtain⟨p,U⟩:∃p,o[A]=p:=⟨_,rfl⟩
 obtain⟨Q,V⟩:∃Q,u[A]=Q:=⟨_,rfl⟩
 rw[U]at hp
 rw[V]at K
 have D:=hm.rings A p Q hp K;obtain⟨g1,c1,rfl,_⟩:=aY hm.prow (by omega);obtain⟨g2,X,rfl,_⟩:=aY hm.brow (by have:=hm.blen;omega);have n1:g1≠n:=λe=>aA hm.prow hm.top (by decide) (by rw[e];rfl);have n2:g2≠n:=λe=>aA hm.brow hm.top (by decide) (by rw[e];rfl);have n3:g1≠g2:=λe=>jW hm.prow hm.brow (by decide) g1 rfl (by rw[e];rfl);have hG:∀i,i<o.length->¬v i n/\¬v i g1/\¬v i g2:=λi hi=>by
  have E:=hm.rings i _ _ (Hn hi) (Hn (by rw[<-hm.plen];exact hi));exact⟨E.ne hm.top (by decide) (by decide),E.By hm.prow (by decide) (by decide) g1 rfl,E.By hm.brow (by decide) (by decide) g2 rfl⟩
 obtain⟨M,N,q⟩:=hG A x;have z:u_ w g2 p room (v A) Q r fl id ln:=λW k=>by
  refine(DC (D.kp k (λb f e=>q (e▸f))) (by have:=BE K;omega) ⟨r,⟨fl,id,ln⟩⟩).mono ?_;rintro e w' ⟨a,I,b,c,d⟩;exact⟨a,I,b,c,d⟩
 have O:w.cell? ⟨g1,A,none⟩=some (.pointer (some ⟨p,0,none⟩)):=bu hm.prow A (by rw[H2,hp];rfl);have Y:=hm.plen;have Z:=hm.blen;have key:Calls Tryz.prog 231 #[.pointer (some ⟨n,0,none⟩),.int .u64 r,.agg #[.int .u32 fl,.int .u32 id,.int .u64 ln]] w λe w'=>kJ w n g1 c1 g2 X g.length room (eO u) p A (v A) Q (gq g r) r fl id ln e w':=by
  have s:=hm.top;rw[show o.length=g.length by omega]at s
  unfold gq;rw[J];by_cases t:A=0/\r<g.getD 0 0
  ·rw[Hl t];exact BD r fl id ln s hm.brow O ⟨n2,q⟩ n3 M hl hm.tot.2 (by omega) rfl J z t.1 t.2 hm.up hm.bok
  ·rw[Hk t];exact BA r fl id ln s hm.brow O ⟨n2,q⟩ n3 M hl hm.tot.2 (by omega) rfl J z t
 refine key.mono ?_;rintro e w' ⟨he,hT,hO,⟨I,hR,hN⟩,hK⟩;have ac:u.getD A []=Q:=by rw[Hx,K];rfl
 have G:jd g u r ⟨r,⟨fl,id,ln⟩⟩=u.set A (Q++[⟨r,⟨fl,id,ln⟩⟩]):=by unfold jd;rw[J,ac]
 have P:∀i,i<o.length->∀b,v i b->b<w.heap.size:=λi hi b f=>
  (hm.rings i _ _ (Hn hi) (Hn (by rw[<-hm.plen];exact hi))).lt f
 have B:∀b,(b=n\/b=g2\/v A b)->Bv n (.slice (some ⟨g1,0,none⟩) o.length c1) (.slice (some ⟨g2,0,none⟩) g.length X) o v b:=λb f=>by
  rcases f with rfl|rfl|f
  ·exact .inl rfl
  ·exact .inr (.inr (.inl rfl))
  ·exact .inr (.inr (.inr ⟨A,x,f⟩))
 refine⟨by rw[he,J],Bv n (.slice (some ⟨g1,0,none⟩) o.length c1) (.slice (some ⟨g2,0,none⟩) g.length X) o (λi=>if i=A then I else v i),⟨_,_,o,_,rfl,?_⟩,hK.mono (λb _=>B b),?_⟩
 ·rw[G];refine {top:= ?_,prow:=au hm.prow hK (λb f t=> ?_),brow:=by rw[hY];exact hO,plen:=by rw[Hr];exact hm.plen,blen:=by rw[Hr,hY];exact hm.blen,few:=by rw[Hr];exact hm.few,tot:=by rw[tv K];exact⟨by omega,hm.tot.2⟩,up:=xO hm.up (by omega) r,bok:=xP hm.bok r hr,rings:=λi p' Q' l m=> ?_,apart:=λi j b hi S y L H=> ?_}
  ·rw[tv K,Y.trans Z.symm];exact hT
  ·have ad:g1=b:=Option.some.inj f;subst ad;rcases t with e|e|e
   ·exact n1 e
   ·exact n3 e
   ·exact N e
  ·by_cases e:i=A
   ·subst e;rw[H8 C]at m
    injection m with m;rw[hp]at l
    injection l with l;subst l m;rw[Hl rfl];exact hR
   ·rw[HL (λh=>e h.symm)]at m
    rw[Hk e];have hi:i<o.length:=(HD.1 l).1;obtain⟨a1,a2,a3⟩:=hG i hi
    exact(hm.rings i p' Q' l m).kp hK (λb f t=>by
     rcases t with rfl|rfl|t
     ·exact a1 f
     ·exact a3 f
     ·exact hm.apart i A b hi x e f t)
  ·by_cases T:i=A
   ·rw[Hl T]at L
    rw[Hk (λe=>y (T.trans e.symm))]at H
    subst T;rcases hN b L with R|R
    ·exact hm.apart i j b hi S y R H
    ·have:=P j S b H;omega
   ·rw[Hk T]at L
    by_cases e2:j=A
    ·rw[Hl e2]at H
     subst e2;rcases hN b H with R|R
     ·exact hm.apart i j b hi S y L R
     ·have:=P i hi b L;omega
    ·rw[Hk e2]at H
     exact hm.apart i j b hi S y L H
 ·intro b f;rcases f with rfl|f|f|⟨i,hi,f⟩
  ·exact .inl (.inl rfl)
  ·exact .inl (.inr (.inl f))
  ·exact .inl (.inr (.inr (.inl f)))
  ·by_cases e:i=A
   ·rw[Hl e]at f
    rcases hN b f with h|h
    ·exact .inl (B b (.inr (.inr h)))
    ·exact .inr h
   ·rw[Hk e]at f
    exact .inl (.inr (.inr (.inr ⟨i,hi,f⟩)))
end
end Go.Proofs.YtincjochpkdnfaaGreatDoor
