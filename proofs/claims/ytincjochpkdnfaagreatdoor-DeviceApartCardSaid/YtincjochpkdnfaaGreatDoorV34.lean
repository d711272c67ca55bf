/- A lane's step, whatever comes (layer 37). -/
import Derived.Test.YtincjochpkdnfaaGreatDoorV30
set_option linter.all false
set_option maxHeartbeats 4000000
set_option maxRecDepth 100000
namespace Go.Proofs.YtincjochpkdnfaaGreatDoor
section
open Go Go.RowKit Go.Shelf
def Ln.sD(l:Ln)(rf:List Nat):Ln:= {l with rf:=rf}
def Au(l:Ln)(k:Nat)(x:Nat):(sy l).set (2+k) (.int .u64 x)=sy {l with rf:=l.rf.set k x}:=by
 unfold sy;rw[show 2+k=k+1+1 by omega,IE,IE];show _::_::(l.rf.map λ(n:Nat)=>Value.int .u64 n).set k ((λ(n:Nat)=>Value.int .u64 n) x)=_::_::(l.rf.set k x).map λ(n:Nat)=>Value.int .u64 n;rw[Is]
def wI(l:Ln){k:Nat}(h:k<l.rf.length):(sy l)[2+k]? =some (.int .u64 (l.rf.getD k 0:Nat)):=by
 unfold sy;rw[show 2+k=k+1+1 by omega,IX,IX,H2,Hn h,Hx,Hn h];rfl
def h5.ref{w d w3:World}{l:Ln}{rf:List Nat}{room:Nat}{g:List ByteArray}{f:dy}{p:Po}(h:h5 w d (l.sD rf) room g f p)(k2:Kp ae d w3)(k x:Nat):h5 w (w3.setCell ⟨l.lb,2+k,none⟩ (.int .u64 x)) (l.sD (rf.set k x)) room g f p:=by
 have a:=h.ln.old k2;have c:Kp (λb=>b=l.lb) w3 (w3.setCell ⟨l.lb,2+k,none⟩ (.int .u64 x)):=(Kp.refl (λb=>b=l.lb) w3).set (p:=⟨l.lb,2+k,none⟩) (.inl rfl) _;refine⟨⟨?_,a.po.kp c (λb i e=>a.d3 (e▸i)) (λb j m e=>(a.d6 b j m).1 e),a.bx.kp c (λe=>a.d1 e.symm) (λe=>a.d2 e.symm),by show(rf.set k x).length=32;rw[Hr];exact a.nrf,a.d1,a.d2,a.d3,a.d4,a.d5,a.d6⟩,?_,h.nw,h.pb,h.lo,h.hi⟩
 ·have:=a.top.set (2+k) (.int .u64 x);rw[Au]at this
  exact this
 ·exact(h.kp.then k2 (λ_ _ e=>e.elim)).trans (c.mono (λb _ e=>.inl e))
def lP(W:World):(sizeOf (Tryz.prog.elem 54)).run Tryz.prog W=.ok 1 W:=by kernel_rfl
def Df(lb k:Nat)(b:k<32)(W:World):(Instr.indexAt 54 (.pointer (some ⟨lb,2,none⟩)) (.int .i64 k)).run Tryz.prog W=.ok (.pointer (some ⟨lb,2+k,none⟩)) W:=by
 have h:=run_indexAt_array (P:=Tryz.prog) (w:=W) 54 ⟨lb,2,none⟩ .i64 k (by kernel_rfl);have a:(k:Int)<32:=by omega
 rw[h,Hl ⟨by omega,by rw[show Tryz.prog.arrayLen 54=32 by kernel_rfl];exact a⟩,lP];simp[Result.andThen,Addr.add]
structure Cx (w1 wr:World) (l:Ln) (room n:Nat) (q' qt:List ByteArray) (j:Nat):Prop where
 is:∃f p rf,h5 w1 wr (l.sD rf) room q' f p/\ep l.p l.rf qt=ep p rf (qt.drop j)/\cq p.s.bk<=n+j/\p.num<=n+j/\∀x∈rf,x<18446744073709551616
def h5.ne{w wr:World}{l:Ln}{room:Nat}{a:List ByteArray}{f:dy}{p:Po}(h:h5 w wr l room a f p)(b:dH w)(c:¬l.all 0):¬f.all 0:=λe=>by
 rcases h.nw _ e with e|e
 ·exact c (.inr (.inr (.inr e)))
 ·have:=Iy w ⟨0,0,none⟩ (b 0 (by decide));have d:0<w.heap.size:=this;omega
def h5.Dg{T:Nat->Prop}{w wr d:World}{l:Ln}{room:Nat}{g:List ByteArray}{f:dy}{p:Po}(h:h5 w wr l room g f p)(j:∀x,l.aJ x->x<w.heap.size)(k:Kp T wr d)(m:∀x,T x->¬f.all x)(i:∀x,T x->w.heap.size<=x):h5 w d l room g f p:=by
 have b:∀x,T x->¬l.aJ x:=λx e c=>by have:=i x e;have:=j x c;omega
 refine⟨h.ln.kp k (λx c e=> ?_),?_,h.nw,h.pb,h.lo,h.hi⟩
 ·rcases c with(a|a|a|a)|⟨a,n⟩
  ·exact b x e (.inl (.inl a))
  ·exact b x e (.inl (.inr (.inl a)))
  ·exact b x e (.inl (.inr (.inr (.inl a))))
  ·exact m x e a
  ·exact b x e (.inr ⟨by rw[<-h.lo];exact a,by rw[<-h.hi];exact n⟩)
 ·exact h.kp.then k (λx c e=>by have:=i x e;omega)
def EO{w:World}{room batch n:Nat}{l:Ln}(h:iY w room l)(hT:dH w)(hg:¬l.all 0)(hb:batch<=64)(hq:∀x∈l.q,x.size<=100000)(hn:cq l.p.s.bk<=n/\l.p.num<=n)(aM:n<=1000000)(bg:∀x∈l.rf,x<18446744073709551616):
    Calls Tryz.prog 29 #[.pointer (some ⟨l.lb,0,none⟩),.int .i64 batch] w λe w'=>∃v I,e=.returned v/\w'.ownsRow w.heap.size 9 1 v (fX batch (aC l)).1.length (strs (fX batch (aC l)).1)/\h5 w w' (l.sD (fX batch (aC l)).2.2.2) room (fX batch (aC l)).2.2.1 I (fX batch (aC l)).2.1/\(∀b,v.ownBlock=some b->¬I.all b):=by
 have bI:=aa (D9 h.bx batch (by omega));have l1:=h.top.cell 1 (v:=.pointer (some ⟨l.xb,0,none⟩)) rfl;have H:=aa h;have bQ:=aa hT;have bE:=aa hg;have bh:=aa hq;have aP:=aa hn;have aG:=aa bg;obtain⟨R,hR⟩:∃R,fX batch (aC l)=R:=⟨_,rfl⟩
 obtain⟨A,hA⟩:∃A,ep l.p l.rf (l.q.take batch)=A:=⟨_,rfl⟩
 have bf:Hid (R=((cF batch A.1).1,((cF batch A.1).2,l.q.drop batch,A.2))):=aa (by rw[<-hR,<-hA];rfl);rw[hR];have bR:=aa hA;obtain⟨lb,ad⟩:∃lb,l.lb=lb:=⟨_,rfl⟩
 obtain⟨xb,af⟩:∃xb,l.xb=xb:=⟨_,rfl⟩
 have bJ:=aa af;have J:=aa ad;rw[ad,af]at l1
 rw[af]at bI
 rw[ad];clear h hT hg hq hn bg ad af hR hA;refine al ?_;intro PP bF;go_enter Tryz.func29,Tryz.ntmps29;go_wp2_with fail;refine(bI.out).mono ?_;rintro e w1 ⟨v,rfl,t,aQ,ag⟩;rw[<-bJ.out]at aQ
 have aS:=H.out.box ag aQ;have bi:Hid (Cx w1 w1 l room n (l.q.drop batch) (l.q.take batch) 0):=aa ⟨l.f,l.p,l.rf,⟨aS,Kp.refl _ _,Nw.refl _ _,rfl,rfl,rfl⟩,rfl,aP.out.1,aP.out.2,aG.out⟩;have aT:Hid (dH w1):=aa (bQ.out.kp ag (λe=>bE.out (.inr (.inr (.inl e)))));have ai:=aa ag;have bK:=aa aS;obtain⟨nq,aU⟩:∃nq,min batch l.q.length=nq:=⟨_,rfl⟩
 rw[aU]at t
 have aV:=aa aU;have bT:nq<=64:=by omega
 have K:=aa t;obtain⟨vo,vc,rfl⟩:=aN t;have bU:Hid (∀x,(.int .i64 x:Value)=.int .i64 x):=aa (λ_=>rfl);clear t aQ ag aS aU bI l1 bQ aP aG;go_wp2_with fail;go_loopw [19] (λi0 wr=>∃j:Nat,i0=.int .i64 j/\j<=nq/\Hid (Cx w1 wr l room n (l.q.drop batch) (l.q.take batch) j)) (λi0 _=>nq-(intOf i0).toNat)
 case atStart=>exact⟨0,rfl,Hv _,bi⟩
 case round=>
  clear bi;obtain⟨j,rfl,hj,aj⟩:=hrel;obtain⟨L,aW⟩:∃L:World,L=wr:=⟨_,rfl⟩
  subst aW;by_cases bL:j<nq
  ·have bj:(j:Int)<nq:=by omega
   obtain⟨g,cap,e1,ak⟩:=aY K.out (by omega);injection e1 with e1 _ e3;subst e1 e3;obtain⟨f,p,rf,i,aq,bm,bn,aX⟩:=aj.out.is;have bp:j<l.q.length:=by have:=aV.out;omega
   have aZ:j<(l.q.take batch).length:=by rw[HG];have:=aV.out;omega
   have a0:(l.q.take batch)[j]=l.q[j]:=List.getElem_take;have Z:=bu K.out j (u:=.string l.q[j]) (by rw[kx _ _ aZ,a0]);have bq:¬l.all g:=λe=>by have:=H.out.lt (.inl e);omega
   have br:=i.kp.cell Z bq;have a:=i.ln.top.cell 0 (v:=.pointer (some ⟨f.pb,0,none⟩)) rfl;have M:cW L f p:=i.ln.po;have N:=aa (Gs M (i.tab aT.out bE.out) l.q[j] (bh.out _ (Ht bp)) (by omega) (by omega));have m:L.cell? ⟨lb,0,none⟩=some (.pointer (some ⟨f.pb,0,none⟩)):=by rw[<-J.out];exact a
   have bs:=aa i;have C:Hid (ep l.p l.rf (l.q.take batch)=ep (dm p (bl l.q[j])).2 (eV rf (dm p (bl l.q[j])).1.2) ((l.q.take batch).drop (j+1))):=aa (by rw[aq,Ii aZ,a0,jF]);have a1:=Af p (bl l.q[j]);have av:=rp p (bl l.q[j]);have O:=aa (rq aX (dm p (bl l.q[j])).1.2);have aw:=aa aX;have bv:rf.length=32:=i.ln.nrf;obtain⟨x,hx⟩:∃x,l.q[j]=x:=⟨_,rfl⟩
   rw[hx]at br N C a1 av O
   obtain⟨NU,bw⟩:∃NU,(dm p (bl x)).1.1=NU:=⟨_,rfl⟩
   obtain⟨cd,z⟩:∃cd,(dm p (bl x)).1.2=cd:=⟨_,rfl⟩
   obtain⟨p2,ax⟩:∃p2,(dm p (bl x)).2=p2:=⟨_,rfl⟩
   rw[bw,z,ax]at N
   rw[z,ax]at C
   rw[ax]at a1
   rw[z]at av O
   have D:Hid (cq p2.s.bk<=n+(j+1)/\p2.num<=n+(j+1)):=aa (by omega);obtain⟨pb,P⟩:∃pb,f.pb=pb:=⟨_,rfl⟩
   rw[P]at m N
   have az:=aa av;have a2:=aa bv;clear i M aq bm bn aX Z bq a hx bw z ax P aj bp aZ a0 ak a1 av bv;go_wp2_with fail;refine(N.out).mono ?_;rintro e w2 ⟨rfl,Q⟩;obtain⟨I,E,_,_⟩:=bs.out.tI Q;have d:=aa E;clear Q E N bs br m;by_cases h0:cd=0
   ·subst h0;have a3:Hid (Cx w1 w2 l room n (l.q.drop batch) (l.q.take batch) (j+1)):=aa ⟨I,p2,rf,d.out,by have:=C.out;rw[show eV rf 0=rf from rfl]at this;exact this,D.out.1,D.out.2,aw.out⟩;clear d C D aw O az a2;go_wp2_with fail;go_roundw
    case rel=>exact⟨j+1,by go_num,by omega,a3⟩
    case measure=>simp[intOf];omega
   ·obtain⟨k,rfl⟩:∃k:Nat,cd=k:=⟨cd.toNat,by have:=az.out;omega⟩
    have bz:k<32:=by have:=az.out;omega
    have aA:k<rf.length:=by have:=a2.out;omega
    have bV:=Df lb k bz;obtain⟨rx,aB⟩:∃rx,rf.getD k 0=rx:=⟨_,rfl⟩
    have aI:rx<18446744073709551616:=by
     rw[<-aB,Hx,Hn aA];exact aw.out _ (Ht aA)
    have aD:Hid (eV rf (k:Int)=rf.set k (cH rx 1)):=aa (by unfold eV;rw[Hk h0,HZ,aB]);have a4:w2.cell? ⟨lb,2+k,none⟩=some (.int .u64 rx):=by
     have:=d.out.ln.top.cell (2+k) (wI _ (show k<rf.length from aA));rw[<-J.out,<-aB];exact this
    have a5:Hid (∀W,Calls Tryz.prog 56 #[.int .u64 rx,.int .u64 1] W λe w'=>e=.returned (.int .u64 (cH rx 1))/\Kp ae W w'):=λW=>(sT rx 1 aI (by decide) W).mono λe w' h=>⟨h.1,h.2▸Kp.refl ae _⟩
    have bW:¬(k:Int)=0:=h0;obtain⟨sx,bA⟩:∃sx,cH rx 1=sx:=⟨_,rfl⟩
    rw[bA]at aD a5
    clear aB aI aA h0 bA a2 az aw;go_upto_region 6 with fail;refine ar 12 (by kernel_rfl) (λ_ _ _ _ _ h=>h) ?_;simp only[aO]
    repeat((first
      |refine ay (by rfl) (by as_aux_lemma=>intro W hK;have e0:=hK.cell a4 (λx=>x);go_simp;exact rfl) ?_
      |refine ah (by rfl) ?_
      |refine aR (by rfl) (by as_aux_lemma=>intro W;go_simp;exact⟨rfl,rfl⟩) (by intro W hK;with_reducible first|exact a5.out W) ?_);simp only[Act.put,aH])
    intro W3 aE;have a6:=d.out.ref aE k sx;rw[J.out]at a6
    have a3:Hid (Cx w1 (W3.setCell ⟨lb,2+k,none⟩ (.int .u64 sx)) l room n (l.q.drop batch) (l.q.take batch) (j+1)):=aa ⟨I,p2,rf.set k sx,a6,by rw[C.out,aD.out],D.out.1,D.out.2,by have:=O.out;rw[aD.out]at this;exact this⟩;have bX:=aE.cell a4 (λx=>x);have bY:W3.frozen? ⟨lb,2+k,none⟩=false:=by
     have:=(d.out.ln.old aE).top.fz (2+k);rw[<-J.out];exact this
    clear a6 aE d C D O aD a5 a4;go_wp2_with fail;go_roundw
    case rel=>exact⟨j+1,by go_num,by omega,a3⟩
    case measure=>simp[intOf];omega
  ·have bZ:j=nq:=by omega
   have bj:¬(j:Int)<nq:=by omega
   have a7:Hid (∃f p,h5 w1 L (l.sD A.2) room (l.q.drop batch) f p/\p=A.1/\cq p.s.bk<=n+64):=by
    obtain⟨f,p,rf,i,aq,bm,bn,_⟩:=aj.out.is;have hd:(l.q.take batch).drop j=[]:=Jr (by rw[HG];have:=aV.out;omega);have e:A=(p,rf):=by rw[<-bR.out,aq,hd];rfl
    rw[e];exact aa ⟨f,p,i,rfl,by show _<=n+64;omega⟩
   clear aj K bR bh;obtain⟨A1,A2⟩:=A;simp only at bf a7;go_wp2_with fail;have bB:Hid (L.ownsRow w1.heap.size 9 1 (.slice none 0 0) 0 (strs [])):=aa ⟨by simp[strs],.inl ⟨rfl,rfl⟩⟩;go_loopw [48,9] (λi0 v0 wr=>∃(k:Nat) (o:List ByteArray),i0=.int .i64 k/\k<=batch/\o.length=k/\Hid (wr.ownsRow w1.heap.size 9 1 v0 k (strs o))/\Hid (∃f p,h5 w1 wr (l.sD A2) room (l.q.drop batch) f p/\cF batch A1=(o++(cF (batch-k) p).1,(cF (batch-k) p).2)/\cq p.s.bk<=n+64/\∀b,v0.ownBlock=some b->¬f.all b)) (λi0 _ _=>batch-(intOf i0).toNat)
   case atStart=>
    obtain⟨f,p,i,hp,F⟩:=a7.out;exact⟨0,[],rfl,Hv _,rfl,bB,aa ⟨f,p,i,by rw[Im,J6,hp],F,λb e=>by cases e⟩⟩
   case round=>
    clear bB a7 bj;obtain⟨k,o,rfl,hk,a8,a9,aj⟩:=hrel;obtain⟨L,aW⟩:∃L:World,L=wr:=⟨_,rfl⟩
    subst aW;obtain⟨ao,ac,rfl⟩:=aN a9.out;by_cases bL:k<batch
    ·have bM:(k:Int)<batch:=by omega
     obtain⟨f,p,i,hS,F,S⟩:=aj.out;have a:=i.ln.top.cell 0 (v:=.pointer (some ⟨f.pb,0,none⟩)) rfl;have m:L.cell? ⟨lb,0,none⟩=some (.pointer (some ⟨f.pb,0,none⟩)):=by rw[<-J.out];exact a
     have M:cW L f p:=i.ln.po;have aF:=aa (Gr M ⟨i.tab aT.out bE.out,λe=>i.ne aT.out bE.out (.inr (.inr e))⟩ (by omega));have bs:=aa i;have a_:=aa S;have ba:batch-k=(batch-(k+1))+1:=by omega
     have bG:Hid ((cm p).1.2=0->cF batch A1=(o++[tx (cm p).1.1]++(cF (batch-(k+1)) (cm p).2).1,(cF (batch-(k+1)) (cm p).2).2)):=aa (λe=>by rw[hS,ba,kQ e];simp);have bH:Hid (¬(cm p).1.2=0->cF batch A1=(o,(cm p).2)):=aa (λe=>by rw[hS,ba,km e];simp);have bb:Hid (cq (cm p).2.s.bk<=n+64):=aa (by rw[(Ag p).1];exact F);obtain⟨y,hy⟩:∃y,tx (cm p).1.1=y:=⟨_,rfl⟩
     obtain⟨c,Z⟩:∃c,(cm p).1.2=c:=⟨_,rfl⟩
     obtain⟨p',T⟩:∃p',(cm p).2=p':=⟨_,rfl⟩
     rw[hy,Z,T]at aF
     rw[Z,hy,T]at bG
     rw[Z,T]at bH
     rw[T]at bb
     obtain⟨pb,P⟩:∃pb,f.pb=pb:=⟨_,rfl⟩
     rw[P]at m aF
     clear i M hS F S a P aj hy Z T ba;go_wp2_with fail;refine(aF.out).mono ?_;rintro e w2 ⟨rfl,Q⟩;obtain⟨I,E,bC,aM⟩:=bs.out.tI Q;have U:=aa (au a9.out bC (λb e=>a_.out b e));have r:Hid (∀b,(Value.slice ao k ac).ownBlock=some b->¬I.all b):=aa λb e hf=>by
      rcases aM b hf with e2|e2
      ·exact a_.out b e e2
      ·have:=(an a9.out e).2;omega
     have d:=aa E;have bS:w1.heap.size<=w2.heap.size:=E.kp.size;clear Q E bC aM aF bs a_ m;by_cases Z:c=0
     ·subst Z;have G:=aa (bG.out rfl);clear bG bH;go_wp2_with(at_builtin;refine fk yv (.tmp 60) (.tmp 62) rfl rfl w1.heap.size (U.out.alloc _) [.string y] rfl rfl rfl (cz _ _) rfl (by omega) (by omega) (by simp;omega) ?_);intro g3 V w3 X B ak;have aK:Kp (λx=>(Value.slice ao k ac).ownBlock=some x) _ w3:=(Kp.refl _ _).grown B (λb e=>.inl e);have a:=λx (hx:I.all x)=>d.out.ln.po.lt hx;have bc:∀x,(l.sD A2).aJ x->x<w1.heap.size:=λx hx=>bK.out.lt hx;have bD:=(d.out.Dg bc ((Kp.refl ae w2).alloc _) (λ_ h=>h.elim) (λ_ h=>h.elim)).Dg bc aK (λx e=>r.out x e) (λx e=>(an U.out e).1);have aL:∀b,(Value.slice (some ⟨g3,0,none⟩) (k+1) V).ownBlock=some b->¬I.all b:=λb e hf=>by
       have e2:g3=b:=by simpa[Value.ownBlock]using e
       subst e2;rcases ak with e3|e3
       ·exact r.out _ e3 hf
       ·have:=a _ hf;omega
      have bN:Hid (w3.ownsRow w1.heap.size 9 1 (.slice (some ⟨g3,0,none⟩) (k+1) V) (k+1) (strs (o++[y]))):=by rw[jh];exact X
      have bO:Hid (∃f p,h5 w1 w3 (l.sD A2) room (l.q.drop batch) f p/\cF batch A1=(o++[y]++(cF (batch-(k+1)) p).1,(cF (batch-(k+1)) p).2)/\cq p.s.bk<=n+64/\∀b,(Value.slice (some ⟨g3,0,none⟩) (k+1) V).ownBlock=some b->¬f.all b):=aa ⟨I,p',bD,G.out,bb.out,aL⟩;clear X B ak aK a bD aL U d r G a9 bb bc;go_wp2_with fail;go_roundw
      case rel=>exact⟨k+1,o++[y],by go_num,by omega,by simp[a8],bN,bO⟩
      case measure=>simp[intOf];omega
     ·have G:=aa (bH.out Z);have Y:=aa (bF.out _ _ ⟨_,I,rfl,by rw[bf.out,G.out];exact gm (by rw[a8];exact U.out) ai.out.size,by rw[bf.out,G.out];exact d.out.from ai.out,r.out⟩);clear bF a9 U d r G bG bH;go_wp2_with fail;exact Y.out
    ·have bP:k=batch:=by omega
     subst bP;have bM:¬(k:Int)<k:=by omega
     obtain⟨f,p,i,hS,F,S⟩:=aj.out;rw[Jn]at hS
     have be:cF k A1=(o,p):=by rw[hS];show(o++[],p)=_;rw[HH]
     have Y:=aa (bF.out _ _ ⟨_,f,rfl,by rw[bf.out,be];exact gm (by rw[a8];exact a9.out) ai.out.size,by rw[bf.out,be];exact i.from ai.out,S⟩);clear bF a9 i hS S aj be bf F;go_wp2_with fail;exact Y.out
def c2.qh{T:Nat->Prop}{w w':World}{d:aX}(h:c2 w d)(k:Kp T w w')(a:∀x,T x->d.d_<=x)(f:∀x,T x->d.v.ownBlock≠some x)(g:∀x,T x->∀l∈d.ls,¬l.aJ x):c2 w' d:=by
 have i:=h.lo;have j:=h.lh
 exact {h with
    top:=h.top.kp k (λe=>by have:=a _ e;omega),row:=au h.row k (λb e m=>f b m e),
    tab:=np h.tab k (λe=>by have:=a _ e;have:=h.hi;omega) (λb n e=>by have:=a _ e;have:=h.oa b n;omega),
    hsz:=Hy h.hsz k.size,ln:=λl c=>(h.ln l c).kp k (λx o e=>g x e l c o)}
def f_(x:Nat×ByteArray):List Value:=[.int .i64 x.1,.string x.2]
def nv(x:Nat×ByteArray):(f_ x).length=2:=rfl
def Gx:gL Tryz.prog 51 61 (.agg #[.int .i64 0,.string ⟨#[]⟩]) 2 24:=⟨Tryz.underlying51,by kernel_rfl,rfl,by decide⟩
def yg(i:Int)(s:ByteArray)(W:World):(Instr.build 61 #[(0,.int .i64 i),(1,.string s)]).run Tryz.prog W=.ok (.agg #[.int .i64 i,.string s]) W:=by kernel_rfl
def yh(i:Int)(s:ByteArray)(W:World):(Instr.buildSlice 51 1 #[(0,.agg #[.int .i64 i,.string s])]).run Tryz.prog W=.ok (.slice (some ⟨W.heap.size,0,none⟩) 1 1) (W.alloc (.cells #[.int .i64 i,.string s] 61)):=by kernel_rfl
def b4(batch:Nat):Nat->List ct->List (Nat×ByteArray)
 |_,[]=>[]
 |i,l::r=>((fX batch l).1.map λs=>(i,s))++b4 batch (i+1) r
def dD(batch:Nat)(l:List ct):List ct:=l.map λx=>(fX batch x).2
def n7(batch:Nat):∀(l:List ct) (i:Nat) (x:ct),b4 batch i (l++[x])=b4 batch i l++(fX batch x).1.map λs=>(i+l.length,s)
 | [],i,x=>by simp[b4]
 |y::r,i,x=>by
  show _++b4 batch (i+1) (r++[x])=(_++b4 batch (i+1) r)++_;rw[n7 batch r (i+1) x,Ir,show i+1+r.length=i+(y::r).length by rw[Hs];omega]
def jJ(batch:Nat):∀(l:List ct) (i:Nat),(b4 batch i l).length<=batch*l.length
 | [],_=>Hv _
 |y::r,i=>by
  have a:=jJ batch r (i+1);have b:(fX batch y).1.length<=batch:=ri _ _;show(_++b4 batch (i+1) r).length<=_;rw[HK,Hq,Hs,Nat.mul_succ];omega
def aX.all(d:aX)(x:Nat):Prop:=∃l∈d.ls,l.all x
def aX.aJ(d:aX)(x:Nat):Prop:=∃l∈d.ls,l.aJ x
structure oh (w wr:World) (d:aX) (i:Nat) (v:Value) (ls:List Ln):Prop where
 dv:c2 wr {d with ls:=ls}
 len:ls.length=d.ls.length
 rest:∀j,i<=j->ls[j]? =d.ls[j]?
 done:ls.map aC=dD d.batch ((d.ls.take i).map aC)++(d.ls.drop i).map aC
 kp:Kp d.all w wr
 na:∀l∈ls,∀x,l.all x->d.all x\/w.heap.size<=x
 nf:∀l∈ls,∀x,l.aJ x->d.aJ x\/w.heap.size<=x
 own:∀b,v.ownBlock=some b->d.d_<=b/\d.v.ownBlock≠some b/\∀l∈ls,¬l.aJ b
 ow:∀b,v.ownBlock=some b->w.heap.size<=b
def oh.next{w wr C:World}{d:aX}{ls:List Ln}{i:Nat}{v:Value}{l:Ln}{rf:List Nat}{s:dy}{n:Po}{o:List ByteArray}(h:oh w wr d i v ls)(D:d.ls[i]? =some l)(u:h5 wr C (l.sD rf) d.room o s n)(F:(fX d.batch (aC l)).2=(n,o,rf))(G:∀b,v.ownBlock=some b->b<wr.heap.size):
    oh w C d (i+1) v (ls.set i {l with f:=s,p:=n,q:=o,rf:=rf})/\(∀b,v.ownBlock=some b->¬l.all b):=by
 have y:ls[i]? =some l:=by rw[h.rest i (Hm _)];exact D
 obtain⟨hi,t⟩:=HD.1 y;obtain⟨z,A⟩:=HD.1 D;have c:l∈ls:=IV y;have H:=h.kp.size;have r:∀x,Ln.all {l with f:=s,p:=n,q:=o,rf:=rf} x->l.all x\/wr.heap.size<=x:=λx g=>by
  rcases g with e|e|e|e
  ·exact .inl (.inl e)
  ·exact .inl (.inr (.inl e))
  ·exact .inl (.inr (.inr (.inl e)))
  ·rcases u.nw x e with a|a
   ·exact .inl (.inr (.inr (.inr a)))
   ·exact .inr a
 have k:∀x,Ln.aJ {l with f:=s,p:=n,q:=o,rf:=rf} x->l.aJ x\/wr.heap.size<=x:=λx g=>by
  rcases g with e|⟨a,I⟩
  ·rcases r x e with e|e
   ·exact .inl (.inl e)
   ·exact .inr e
  ·exact .inl (.inr ⟨by have:=u.lo;exact(show l.f.lo=s.lo from this.symm)▸a,by have:=u.hi;exact(show l.f.hi=s.hi from this.symm)▸I⟩)
 have B:=h.dv.upd (i:=i) hi {l with f:=s,p:=n,q:=o,rf:=rf} u.kp (λx _ e=>by show Ln.all (ls[i]) x;rw[t];exact e) u.ln (by show l.lb=(ls[i]).lb;rw[t]) (λx g=>by show Ln.aJ (ls[i]) x\/_;rw[t];exact k x g);refine⟨⟨B,by rw[Hr];exact h.len,λj M=> ?_,?_,h.kp.then u.kp (λx g e=> ?_),λm hm x g=> ?_,λm hm x g=> ?_,λb e=> ?_,h.ow⟩,λb e a=>(h.own b e).2.2 l c (.inl a)⟩
 ·rw[HL (by omega)];exact h.rest j (by omega)
 ·have J:((dD d.batch ((d.ls.take i).map aC)).length)=i:=by unfold dD;rw[Hq,Hq,HG];omega
  rw[Is,h.done,HQ z,HE,Ii z,A];rw[Kq _ _ (by omega),J,Jn];show _++((aC l::(d.ls.drop (i+1)).map aC).set 0 (n,o,rf))=dD d.batch (_++[aC l])++_;unfold dD;rw[HE,Ir,I7];show _++(n,o,rf)::_=_++((fX d.batch (aC l)).2::[]++_);rw[F];rfl
 ·rcases h.na l c x e with a|a
  ·exact a
  ·omega
 ·rcases Il hm with hm|hm
  ·exact h.na m hm x g
  ·subst hm;rcases r x g with a|a
   ·exact h.na l c x a
   ·exact .inr (by omega)
 ·rcases Il hm with hm|hm
  ·exact h.nf m hm x g
  ·subst hm;rcases k x g with a|a
   ·exact h.nf l c x a
   ·exact .inr (by omega)
 ·obtain⟨K,L,E⟩:=h.own b e;refine⟨K,L,λm hm g=> ?_⟩;rcases Il hm with hm|hm
  ·exact E m hm g
  ·subst hm;rcases k b g with a|a
   ·exact E l c a
   ·have:=G b e;omega
def oh.grow{w wr f:World}{d:aX}{ls:List Ln}{i g n cap:Nat}{v:Value}(h:oh w wr d i v ls)(c:World)(j:Kp ae wr c)(p:c.grownBy f v.ownBlock)(k:v.ownBlock=some g\/g=c.heap.size):oh w f d i (.slice (some ⟨g,0,none⟩) n cap) ls:=by
 have k2:Kp (λx=>v.ownBlock=some x) c f:=(Kp.refl _ _).grown p (λb e=>.inl e);have q:=h.kp.size;have r:=j.size;have key:d.d_<=g/\d.v.ownBlock≠some g/\(∀l∈ls,¬l.aJ g)/\w.heap.size<=g:=by
  rcases k with a|a
  ·exact⟨(h.own g a).1,(h.own g a).2.1,(h.own g a).2.2,h.ow g a⟩
  ·have u:d.d_<=wr.heap.size:=h.dv.hsz;refine⟨by omega,λs=> ?_,λl t o=> ?_,by omega⟩
   ·have:=(an h.dv.row s).2;omega
   ·have:=(h.dv.ln l t).lt o;omega
 refine⟨(h.dv.old j).qh k2 (λx e=>(h.own x e).1) (λx e=>(h.own x e).2.1) (λx e=>(h.own x e).2.2),h.len,h.rest,h.done,(h.kp.then j (λ_ _ e=>e.elim)).then k2 (λx o e=>absurd (h.ow x e) (by omega)),h.na,h.nf,λb e=> ?_,λb e=> ?_⟩
 ·have m:g=b:=by simpa[Value.ownBlock]using e
  subst m;exact⟨key.1,key.2.1,key.2.2.1⟩
 ·have m:g=b:=by simpa[Value.ownBlock]using e
  subst m;exact key.2.2.2
structure h_ (n:Nat) (l:ct):Prop where
 bk:cq l.1.s.bk<=n
 num:l.1.num<=n
 q:∀x∈l.2.1,x.size<=100000
 rf:∀x∈l.2.2,x<18446744073709551616
def oB{w:World}{d:aX}{n:Nat}(h:c2 w d)(hT:dH w)(hg:0<d.d_)(hn:d.ls.length<=8)(hb:d.batch<=64)(hB:∀l∈d.ls,h_ n (aC l))(aL:n<=1000000):
    Calls Tryz.prog 13 #[.pointer (some ⟨d.db,0,none⟩)] w λe w'=>∃v ls,e=.returned v/\w'.ownsRow w.heap.size 61 2 v (b4 d.batch 0 (d.ls.map aC)).length ((b4 d.batch 0 (d.ls.map aC)).flatMap f_)/\c2 w' {d with ls:=ls}/\ls.map aC=dD d.batch (d.ls.map aC)/\Kp d.all w w'/\(∀x,({d with ls:=ls}:aX).all x->d.all x\/w.heap.size<=x)/\(∀x,({d with ls:=ls}:aX).aJ x->d.aJ x\/w.heap.size<=x)/\(∀l∈ls,∀b,v.ownBlock=some b->¬l.aJ b):=by
 obtain⟨ao,sc,hv⟩:=aN h.row;have t0:w.cell? ⟨d.db,0,none⟩=some d.v:=h.top.ai;rw[hv]at t0
 have ad:Hid (oh w w d 0 (.slice none 0 0) d.ls):=aa ⟨h,rfl,λ_ _=>rfl,by simp[dD],Kp.refl _ _,λl j x t=>.inl ⟨l,j,t⟩,λl j x t=>.inl ⟨l,j,t⟩,λb e=>(by cases e),λb e=>(by cases e)⟩;have af:Hid (w.ownsRow w.heap.size 61 2 (.slice none 0 0) 0 (([]:List (Nat×ByteArray)).flatMap f_)):=aa ⟨rfl,.inl ⟨rfl,rfl⟩⟩;have bc:=aa hT;have bl:=aa hg;have aM:=aa hB;have be:=aa hv;have H:=aa h;have bf:=yg;have bg:=yh;have ag:=hb;obtain⟨E,F⟩:∃E,d.ls.length=E:=⟨_,rfl⟩
 obtain⟨db,G⟩:∃db,d.db=db:=⟨_,rfl⟩
 have y:=aa F;have ah:=aa G;rw[F,G]at t0
 rw[F]at hn
 rw[G];have O:Hid (∀l∈d.ls,¬l.all 0):=aa (λl j e=>by have:=(h.at_ l j _ (.inl e)).1;omega);clear h hT hg hB hv F G;refine al ?_;intro PP a9;go_enter Tryz.func13,Tryz.ntmps13;go_wp2_with fail;go_loopw [15,3] (λi0 v0 wr=>∃(i:Nat) (outs:List (Nat×ByteArray)),i0=.int .i64 i/\i<=E/\Hid (wr.ownsRow w.heap.size 61 2 v0 outs.length (outs.flatMap f_))/\Hid (outs=b4 d.batch 0 ((d.ls.take i).map aC))/\Hid (∃ls,oh w wr d i v0 ls)) (λi0 _ _=>E-(intOf i0).toNat)
 case atStart=>exact⟨0,[],rfl,Hv _,af,aa (by simp[b4]),aa ⟨d.ls,ad.out⟩⟩
 case round=>
  clear ad af t0;obtain⟨i,outs,rfl,hi,r,I,J⟩:=hrel;obtain⟨D,aO⟩:∃D:World,D=wr:=⟨_,rfl⟩
  subst aO;obtain⟨vo,vc,rfl⟩:=aN r.out;by_cases aP:i<E
  ·have aQ:(i:Int)<E:=by omega
   obtain⟨ls,p⟩:=J.out;obtain⟨l,j⟩:∃l,d.ls[i]? =some l:=⟨_,Hn (by rw[y.out];exact aP)⟩
   have T:ls[i]? =some l:=by rw[p.rest i (Hm _)];exact j
   obtain⟨g,cap,U,z⟩:=aY H.out.row (by rw[y.out];omega);have aR:Value.slice ao E sc=.slice (some ⟨g,0,none⟩) E cap:=by
    have:=be.out.symm.trans U;rw[y.out]at this;exact this
   injection aR with P _ e3;subst P e3;have a:D.ownsRow d.d_ 89 1 d.v ls.length (ls.flatMap lO):=p.dv.row;rw[U,p.len]at a
   have hc:=bu a i (u:=.pointer (some ⟨l.lb,0,none⟩)) (by
    have:=flat_get lO 1 ko ls i 0 (by decide);rw[Iu,Ig]at this
    rw[this,T];rfl)
   have aS:D.cell? ⟨db,2,none⟩=some (.int .i64 d.batch):=by
    have:=p.dv.top.cell 2 (v:=.int .i64 d.batch) rfl;rw[show({d with ls:=ls}:aX).db=db from ah.out]at this;exact this
   have aj:iY D d.room l:=p.dv.ln l (IV T);have V:l∈d.ls:=IV j;have A:=aM.out l V;have K:=aa (EO (n:=n) aj (bc.out.kp p.kp (λe=>by obtain⟨m,hm,e⟩:=e;exact O.out m hm e)) (O.out l V) ag A.q ⟨A.bk,A.num⟩ aL A.rf);have hR:∃R,fX d.batch (aC l)=R:=⟨_,rfl⟩
   obtain⟨⟨o,p',q',rf⟩,hR⟩:=hR;rw[hR]at K
   have ak:=aa hR;have bh:o.length<=d.batch:=by have:=ri d.batch (ep (aC l).1 (aC l).2.2 ((aC l).2.1.take d.batch)).1;rw[show(cF d.batch (ep (aC l).1 (aC l).2.2 ((aC l).2.1.take d.batch)).1).1=o from HC Prod.fst hR]at this;exact this
   have aT:=aa p;have aq:=aa j;obtain⟨lb,ar⟩:∃lb,l.lb=lb:=⟨_,rfl⟩
   rw[ar]at hc K
   clear p j T U z a aj ar J V A hR;go_wp2_with fail;refine(K.out).mono ?_;rintro e w2 ⟨v,f',rfl,a,L,aU⟩;obtain⟨sg,f,rfl⟩:=aN a;have W:=aT.out.next aq.out L (by rw[ak.out]) (λb e=>(an r.out e).2);have av:=au r.out L.kp (λb e=>W.2 b e);have Q:∀b,(Value.slice sg o.length f).ownBlock=some b->(Value.slice vo outs.length vc).ownBlock≠some b:=λb e X=>by
    have:=(an a e).1;have:=(an r.out X).2;omega
   obtain⟨d2,Y⟩:∃d2,oh w w2 d (i+1) (.slice vo outs.length vc) d2:=⟨_,W.1⟩
   have aw:=L.kp.size;have ax:Hid (oh w w2 d (i+1) (.slice vo outs.length vc) d2):=aa Y;have ay:Hid (w2.ownsRow D.heap.size 9 1 (.slice sg o.length f) o.length (strs o)):=aa a;have az:Hid (w2.ownsRow w.heap.size 61 2 (.slice vo outs.length vc) (outs.length+0) ((outs++(o.take 0).map λs=>(i,s)).flatMap f_)):=aa (by rw[Je,Ik,HH];exact av);have S:=aa Q;have a_:outs.length<=64*i:=by rw[I.out];have:=jJ d.batch ((d.ls.take i).map aC) 0;rw[Hq,HG]at this;have h2:d.batch*min i d.ls.length<=64*i:=K6 ag (Nat.min_le_left _ _);omega
   have aA:w.heap.size<=w2.heap.size:=Y.kp.size;have bi:=aa aA;have bj:Hid (w.heap.size<=D.heap.size/\D.heap.size<=w2.heap.size):=aa ⟨aT.out.kp.size,aw⟩;clear a L aU W av Q Y K aT hc aS r aw aA;go_wp2_with fail;go_loopw [27,3] (λi0 v0 wr=>∃k:Nat,i0=.int .i64 k/\k<=o.length/\Hid (wr.ownsRow w.heap.size 61 2 v0 (outs.length+k) ((outs++(o.take k).map λs=>(i,s)).flatMap f_))/\Hid (oh w wr d (i+1) v0 d2)/\Hid (wr.ownsRow D.heap.size 9 1 (.slice sg o.length f) o.length (strs o))/\Hid (∀b,(Value.slice sg o.length f).ownBlock=some b->v0.ownBlock≠some b)) (λi0 _ _=>o.length-(intOf i0).toNat)
   case atStart=>exact⟨0,rfl,Hv _,az,ax,ay,S⟩
   case round=>
    clear ax ay az S;obtain⟨k,rfl,hk,r,aB,ac,M⟩:=hrel;obtain⟨wp,aV⟩:∃wp:World,wp=wr:=⟨_,rfl⟩
    subst aV;obtain⟨xo,xc,rfl⟩:=aN r.out;by_cases aD:k<o.length
    ·have aW:(k:Int)<o.length:=by omega
     obtain⟨g2,ba,P,aZ⟩:=aY ac.out (by omega);injection P with P _ e3;subst P e3;have a0:=bu ac.out k (u:=.string o[k]) (kx _ _ aD);have Z:Hid (o.take (k+1)=o.take k++[o[k]]):=aa (by rw[HQ aD]);obtain⟨x,t⟩:∃x,o[k]=x:=⟨_,rfl⟩
     rw[t]at a0 Z
     have bb:w.heap.size<=wp.heap.size:=aB.out.kp.size;clear aZ t;go_wp2_with(at_builtin;refine fk Gx (.tmp 31) (.tmp 35) rfl rfl w.heap.size (r.out.alloc (.cells #[.int .i64 i,.string x] 61)) [.int .i64 i,.string x] rfl rfl rfl (cz _ _) rfl (by omega) (by omega) (by simp;omega) ?_);intro g3 B w3 C c z;have ka:Kp ae wp (wp.alloc (.cells #[.int .i64 i,.string x] 61)):=(Kp.refl _ _).alloc _;have aE:=aB.out.grow (n:=outs.length+k+1) (cap:=B) _ ka c (by rw[HB];exact z);have k3:Kp (λb=>(Value.slice xo (outs.length+k) xc).ownBlock=some b) _ w3:=(Kp.refl _ _).grown c (λb e=>.inl e);have a1:=aa (au (au ac.out ka (λ_ _ e=>e)) k3 (λb e X=>M.out b e X));have aF:Hid (∀b,(Value.slice (some ⟨g2,0,none⟩) o.length f).ownBlock=some b->(Value.slice (some ⟨g3,0,none⟩) (outs.length+k+1) B).ownBlock≠some b):=aa λb e X=>by
      have e3:g3=b:=by simpa[Value.ownBlock]using X
      subst e3;rcases z with e4|e4
      ·exact M.out _ e e4
      ·have:=(an ac.out e).2;omega
     have a2:Hid (w3.ownsRow w.heap.size 61 2 (.slice (some ⟨g3,0,none⟩) (outs.length+k+1) B) (outs.length+k+1) ((outs++(o.take (k+1)).map λs=>(i,s)).flatMap f_)):=by
      have e:(outs++(o.take (k+1)).map λs=>(i,s)).flatMap f_=outs.flatMap f_++(((o.map λs=>(i,s)).take k).flatMap f_++[.int .i64 i,.string x]):=by
       rw[Z.out];simp[f_,List.map_take]
      rw[e];exact aa C
     have a3:=aa aE;clear C c z aE k3 ka r aB ac M Z;go_wp2_with fail;go_roundw
     case rel=>exact⟨k+1,by go_num,by omega,a2,a3,a1,aF⟩
     case measure=>simp[intOf];omega
    ·have a4:k=o.length:=by omega
     subst a4;have aW:¬(o.length:Int)<o.length:=by omega
     have a5:Hid (wp.ownsRow w.heap.size 61 2 (.slice xo (outs.length+o.length) xc) (outs++o.map λs=>(i,s)).length ((outs++o.map λs=>(i,s)).flatMap f_)):=by
      have:=r.out;rw[H9]at this
      rw[show(outs++o.map λs=>(i,s)).length=outs.length+o.length by simp];exact aa this
     have aG:Hid (outs++(o.map λs=>(i,s))=b4 d.batch 0 ((d.ls.take (i+1)).map aC)):=aa (by
      obtain⟨a6,a7⟩:=HD.1 aq.out
      rw[HQ a6,HE,a7,HA,Ik,n7,<-I.out,ak.out,Hq,HG,show 0+min i d.ls.length=i by omega])
     have aH:Hid (∃ls,oh w wp d (i+1) (.slice xo (outs.length+o.length) xc) ls):=aa ⟨d2,aB.out⟩;clear r aB ac M;go_wp2_with fail;go_roundw
     case rel=>exact⟨i+1,outs++o.map λs=>(i,s),by go_num,by omega,a5,aG,aH⟩
     case measure=>simp[intOf];omega
  ·have a8:i=E:=by omega
   subst a8;have aQ:¬(i:Int)<i:=by omega
   have aI:Hid (PP (.returned (.slice vo outs.length vc)) D):=aa (by
    obtain⟨ls,p⟩:=J.out;have P:d.ls.take i=d.ls:=IJ (by rw[y.out];exact Hm _);have X:d.ls.drop i=[]:=Jr (by rw[y.out];exact Hm _);have ho:=r.out;have N:=I.out;rw[P]at N
    rw[N]at ho
    have aK:=p.done;rw[P,X,Ik,HH]at aK
    rw[<-N]at ho
    refine a9.out _ _ ⟨_,ls,rfl,by rw[<-N];exact ho,by have e:=p.dv;rw[<-ah.out];exact e,aK,p.kp,λx ⟨l,j,t⟩=>p.na l j x t,λx ⟨l,j,t⟩=>p.nf l j x t,λl j b e t=>(p.own b e).2.2 l j t⟩)
   clear a9 r I J;go_wp2_with fail;exact aI.out
end
end Go.Proofs.YtincjochpkdnfaaGreatDoor
