/- The trie of layer 32 in memory; which kid; looked up by an address; with whole numbers. Printed by wip/ti.py. -/
import Derived.Test.YtincjochpkdnfaaGreatDoorV18
set_option linter.all false
set_option maxHeartbeats 8000000
set_option maxRecDepth 100000
namespace Go.Proofs.YtincjochpkdnfaaGreatDoor
namespace ti
open Go.RowKit
def bM(p:Px)(u:Bool)(x:Nat)(l r:Tr):List Value:=[.int .u32 p.1,.int .i64 p.2,.bool u,.int .i64 x,l.ptr,r.ptr]
def cy(w:World):Tr->Prop
 | .nil=>True
 | .node b p u x l r=>ag w b (bM p u x l r) 144/\cy w l/\cy w r
def cy.kp{S:Nat->Prop}{w w':World}{t:Tr}(h:cy w t)(k:Kp S w w')(hS:∀b∈t.aw,¬S b):cy w' t:=by
 induction t with
 |nil=>trivial
 |node b p u x l r d e=>
  obtain⟨f,g,i⟩:=h;exact⟨f.kp k (hS b (by simp[Tr.aw])),d g (λa c=>hS a (by simp[Tr.aw,c])),e i (λa c=>hS a (by simp[Tr.aw,c]))⟩
def cy.old{w w':World}{t:Tr}(h:cy w t)(k:Kp ae w w'):cy w' t:=h.kp k (λ_ _ x=>x)
def ff(w:World)(b:Nat)(p:Px)(c:w.cell? ⟨b,1,none⟩=some (.int .i64 p.2))(g:p.2<=31)(a:Nat)(ha:a<4294967296):
    Calls Tryz.prog 50 #[.pointer (some ⟨b,0,none⟩),.int .u32 a] w λe w'=>e=.returned (.int .i64 (aZ p a:Nat))/\w=w':=by
 obtain⟨k,l⟩:∃k,31-p.2=k:=⟨_,rfl⟩
 have h:(31:Int)-(p.2:Int)=(k:Int):=by omega
 have m:aZ p a=a/2^k%2:=by unfold aZ;rw[l]
 rw[m];obtain⟨q,f⟩:∃q,a/2^k=q:=⟨_,rfl⟩
 rw[f];have i:q<4294967296:=by rw[<-f];exact IL (Nat.div_le_self _ _) ha
 have t:(a:Int)/2^k=(q:Int):=by rw[<-f];push_cast;rfl
 have o:k<=31:=by omega
 obtain⟨n,r⟩:∃n,p.2=n:=⟨_,rfl⟩
 rw[r]at c h
 obtain⟨s,d⟩:∃s,q%2=s:=⟨_,rfl⟩
 have u:s<=1:=by omega
 have j:bits .and .u32 (q:Int) 1=(s:Int):=by
  have:=bits_and_u32_nat q 1 i (by omega);rw[Kl,d]at this
  exact this
 rw[d];clear m l f r g d;go_enter Tryz.func50,Tryz.ntmps50;go_wp2;go_ret;exact⟨rfl,rfl⟩
structure jv (w wr:World) (T t:Tr) (a:Nat) (acc:Option (Px×Nat)):Prop where
 mem:cy wr t
 wf:t.WF
 low:∀b∈t.aw,b<w.heap.size
 eq:t.az a acc=T.az a none
 pb:ag wr (w.heap.size+1) [.int .u32 (bz acc).1,.int .i64 (bz acc).2] 72
 rb:ag wr w.heap.size [.int .u32 0,.int .i64 0] 72
 kp:Kp ae w wr
def jv.old{w wr w':World}{T t:Tr}{a:Nat}{acc:Option (Px×Nat)}(h:jv w wr T t a acc)(k:Kp ae wr w'):jv w w' T t a acc:=
 ⟨h.mem.old k,h.wf,h.low,h.eq,h.pb.kp k (λx=>x),h.rb.kp k (λx=>x),h.kp.trans k⟩
def cy.lt{w:World}{t:Tr}(h:cy w t):∀b∈t.aw,b<w.heap.size:=by
 induction t with
 |nil=>intro b a;cases a
 |node b p u x l r d e=>
  obtain⟨f,g,i⟩:=h;intro c a;simp only[Tr.aw,Ho,Hu]at a;rcases a with rfl|a|a
  ·exact f.lt
  ·exact d g c a
  ·exact e i c a
def lE(w:World)(tb:Nat)(T:Tr)(n:Int)(hT:ag w tb [T.ptr,.int .i64 n] 140)(hM:cy w T)(hw:T.WF)(a:Nat)(ha:a<4294967296):
    Calls Tryz.prog 25 #[.pointer (some ⟨tb,0,none⟩),.int .u32 a] w λe w'=>e=.returned (.tuple #[.agg #[.int .u32 (bz (T.az a none)).1,.int .i64 (bz (T.az a none)).2],.int .i64 (dx (T.az a none)),.bool (fv (T.az a none))])/\Kp ae w w':=by
 have P:=((Kp.refl ae w).alloc (.cells #[.int .u32 0,.int .i64 0] 72)).alloc (.cells #[.int .u32 0,.int .i64 0] 72);have c0:=(hT.kp P (λx=>x)).ai;have au:Hid (jv w ((w.alloc (.cells #[.int .u32 0,.int .i64 0] 72)).alloc (.cells #[.int .u32 0,.int .i64 0] 72)) T T a none):=by
  refine⟨hM.old P,hw,hM.lt,rfl,?_,(ag.new w [.int .u32 0,.int .i64 0] _).alloc _,P⟩;have:=ag.new (w.alloc (.cells #[.int .u32 0,.int .i64 0] 72)) [.int .u32 0,.int .i64 0] 72;rw[HB]at this
  exact this
 obtain⟨tp,ad⟩:∃v,T.ptr=v:=⟨_,rfl⟩
 have aM:=aa ad;rw[ad]at c0
 obtain⟨R,hR⟩:∃R,T.az a none=R:=⟨_,rfl⟩
 have aJ:=aa hR;rw[hR];clear hT hM hw P ad hR;go_enter Tryz.func25,Tryz.ntmps25;go_wp2;clear c0;go_loopg [8,9,10] T.bq.length (λk s8 s9 aN wr=>∃(t:Tr) (acc:Option (Px×Nat)) (tp:Value),tp=aN/\s8=.int .i64 (dx acc)/\s9=.bool (fv acc)/\t.bq.length<=k/\Hid (t.ptr=tp/\jv w wr T t a acc))
 case atStart=>exact⟨T,none,_,rfl,rfl,rfl,Hm _,aM.out,au.out⟩
 case round=>
  clear au;obtain⟨t,acc,tp,rfl,rfl,rfl,hk,aL⟩:=hrel;cases t with
  |nil=>
   obtain⟨hp,hi⟩:=aL.out;obtain rfl:=hp;have HF:=aa hi;simp only[Tr.ptr];have p0:=HF.out.pb.ai;have p1:=HF.out.pb.aj;clear hi aL
   go_wp2_with(refine b0 rfl 72 (.tmp 4) (.tmp 56) rfl HF.out.rb [.int .u32 (bz acc).1,.int .i64 (bz acc).2] rfl rfl (by kernel_rfl) rfl (by simp[Value.oneCell']) ?_
               intro W2 m _ o
               have A:=aa m;have B:=aa (o _ _ HF.out.kp (.inr (Hm _)));clear m o)
   refine fu (by rfl) A.out _ Tryz.underlying72 rfl (by kernel_rfl) (by rfl) ?_;have he:=HF.out.eq;simp only[Tr.az]at he;refine⟨?_,B.out⟩;rw[<-aJ.out,<-he];rfl
  |node b p u x l r=>
   obtain⟨hp,hi⟩:=aL.out;obtain rfl:=hp;have HF:=aa hi;obtain⟨Y,av,ax⟩:=hi.mem;have n0:=Y.ai;have n1:=Y.aj;have n2:=Y.aq;have n3:=Y.aK;have n4:=Y.a_;have n5:=Y.bN;have Q:=hi.wf.1;have hH:=aa (λW=>yP p.1 a p.2 W Q.2 ha (by have:=(a8.1 Q.1).1;omega));simp only[Tr.ptr];have aP:=aa Y;have aQ:=aa av;have aA:=aa ax;clear hi aL Y av ax n4 n5;cases S:b3 p a with
   |false=>
    have C:=λW=>hH.out W;rw[show hasB p.1 p.2 a=false from S]at C
    have K:=aa C;obtain⟨g,hE⟩:∃x,x=acc:=⟨_,rfl⟩
    subst hE;have aB:Hid (g=T.az a none):=by
     show _=_;rw[<-HF.out.eq];unfold Tr.az;rw[S]
    clear C hH
    go_wp2_with(first
      |(go_at_call 49;refine(K.out _).mono ?_;rintro e w1 ⟨rfl,d⟩
        have Z:Hid (Kp ae w w1/\ag w1 w.heap.size [.int .u32 0,.int .i64 0] 72):=⟨(HF.out.old d).kp,(HF.out.old d).rb⟩
        have p0:=(HF.out.old d).pb.ai;have p1:=(HF.out.old d).pb.aj
        clear d)
      |(refine b0 rfl 72 (.tmp 4) (.tmp 56) rfl Z.out.2 [.int .u32 (bz g).1,.int .i64 (bz g).2] rfl rfl (by kernel_rfl) rfl (by simp[Value.oneCell']) ?_
        intro W2 m _ o
        have A:=aa m;have B:=aa (o _ _ Z.out.1 (.inr (Hm _)));clear m o))
    refine fu (by rfl) A.out _ Tryz.underlying72 rfl (by kernel_rfl) (by rfl) ?_;refine⟨?_,B.out⟩;rw[<-aJ.out,<-aB.out];rfl
   |true=>
    have C:=λW=>hH.out W;rw[show hasB p.1 p.2 a=true from S]at C
    have K:=aa C;clear C hH;cases u with
    |false=>
     by_cases D:p.2=32
     ·have s:((p.2:Int)==32)=true:=by rw[Iq];omega
      obtain⟨g,hE⟩:∃x,x=acc:=⟨_,rfl⟩
      subst hE;have E:=HF.out.wf;have aB:Hid (g=T.az a none):=by
       show _=_;rw[<-HF.out.eq,Tr.c6 S,Tr.gV E.2.1 D,Tr.gV E.2.2.1 D];simp only[Tr.az,ite_self]
      clear E D
      go_wp2_with(first
       |(go_at_call 49;refine(K.out _).mono ?_;rintro e w1 ⟨rfl,d⟩
         have Z:Hid (Kp ae w w1/\ag w1 w.heap.size [.int .u32 0,.int .i64 0] 72):=⟨(HF.out.old d).kp,(HF.out.old d).rb⟩
         have y:=aa (aP.out.kp d (λx=>x));have p0:=(HF.out.old d).pb.ai;have p1:=(HF.out.old d).pb.aj;have n1:=y.out.aj;have n2:=y.out.aq
         clear d n0 n3)
       |(refine b0 rfl 72 (.tmp 4) (.tmp 56) rfl Z.out.2 [.int .u32 (bz g).1,.int .i64 (bz g).2] rfl rfl (by kernel_rfl) rfl (by simp[Value.oneCell']) ?_
         intro W2 m _ o
         have A:=aa m;have B:=aa (o _ _ Z.out.1 (.inr (Hm _)));clear m o))
      refine fu (by rfl) A.out _ Tryz.underlying72 rfl (by kernel_rfl) (by rfl) ?_;refine⟨?_,B.out⟩;rw[<-aJ.out,<-aB.out];rfl
     ·have s:((p.2:Int)==32)=false:=by rw[HM];omega
      go_wp2_with(go_at_call 49;refine(K.out _).mono ?_;rintro e w1 ⟨rfl,d⟩
                  have U:=aa d;have i:Hid (Kp ae w w1/\ag w1 (w.heap.size+1) [.int .u32 (bz acc).1,.int .i64 (bz acc).2] 72/\ag w1 w.heap.size [.int .u32 0,.int .i64 0] 72/\Kp ae w w1):=⟨(HF.out.old d).kp,(HF.out.old d).pb,(HF.out.old d).rb,(HF.out.old d).kp⟩
                  have q:=aa (aP.out.kp d (λx=>x));have n1:=q.out.aj;have n2:=q.out.aq
                  clear d n0 n3)
      obtain⟨c,j⟩:∃z,z=acc:=⟨_,rfl⟩
      subst j
      rename World=>V
      have L:Hid (∀t:Tr,t.az a c=t.az a c):=λ_=>rfl;have af:=aa (aQ.out.old U.out);have ak:=aa (aA.out.old U.out);clear n1 n2 s;have GS:=aa (λW (k:Kp ae V W)=>aF (ff W b p ((q.out.kp k (λx=>x)).aj) (by have:=(a8.1 Q.1).1;omega) a ha));have q4:=q.out.a_;have q5:=q.out.bN;rcases bn p a with X|X
      ·rw[X]at GS
       refine ar 8 (by kernel_rfl) (λ_ _ _ _ _ h=>h) ?_;simp only[aO]
       repeat((first
          |refine ay (by rfl) (by as_aux_lemma=>intro W F;have e0:=F.cell q4 (λx=>x);go_simp;exact rfl) ?_
          |refine ah (by rfl) ?_
          |refine aR (by rfl) (by as_aux_lemma=>intro W;go_simp;exact⟨rfl,rfl⟩) (by intro W F;with_reducible first|exact GS.out W F) ?_);simp only[Act.put,aH])
       intro W5 f;have G:Hid (jv w W5 T l a c):=⟨af.out.old f,HF.out.wf.2.2.2.1,λM J=>HF.out.low M (by simp[Tr.aw,J]),by rw[<-HF.out.eq,Tr.c6 S,Hl X]<;>exact L.out l,i.out.2.1.kp f (λx=>x),i.out.2.2.1.kp f (λx=>x),i.out.2.2.2.trans f⟩
       have hlen:=hk;simp only[Tr.bq,Hs,HK]at hlen;clear f q4 q5 GS;go_wp2_with fail;go_roundg l.bq.length
       case measure=>omega
       case rel=>exact⟨l,c,_,rfl,by first|rfl|rw[N.out],by first|rfl|rw[O.out],Hm _,rfl,G.out⟩
      ·rw[X]at GS
       have al:¬aZ p a=0:=by omega
       refine ar 8 (by kernel_rfl) (λ_ _ _ _ _ h=>h) ?_;simp only[aO]
       repeat((first
          |refine ay (by rfl) (by as_aux_lemma=>intro W F;have e0:=F.cell q5 (λx=>x);go_simp;exact rfl) ?_
          |refine ah (by rfl) ?_
          |refine aR (by rfl) (by as_aux_lemma=>intro W;go_simp;exact⟨rfl,rfl⟩) (by intro W F;with_reducible first|exact GS.out W F) ?_);simp only[Act.put,aH])
       intro W5 f;have G:Hid (jv w W5 T r a c):=⟨ak.out.old f,HF.out.wf.2.2.2.2,λM J=>HF.out.low M (by simp[Tr.aw,J]),by rw[<-HF.out.eq,Tr.c6 S,Hk al]<;>exact L.out r,i.out.2.1.kp f (λx=>x),i.out.2.2.1.kp f (λx=>x),i.out.2.2.2.trans f⟩
       have hlen:=hk;simp only[Tr.bq,Hs,HK]at hlen;clear f q4 q5 GS;go_wp2_with fail;go_roundg r.bq.length
       case measure=>omega
       case rel=>exact⟨r,c,_,rfl,by first|rfl|rw[N.out],by first|rfl|rw[O.out],Hm _,rfl,G.out⟩
    |true=>
     have aS:b<w.heap.size:=HF.out.low b (by simp[Tr.aw]);have ac:=aa HF.out.low
     go_wp2_with(go_at_call 49;refine(K.out _).mono ?_;rintro e w1 ⟨rfl,d⟩
                 have H:=aa (HF.out.old d);have U:=aa d;have y:=aa (aP.out.kp d (λx=>x));clear n0 n1 n2 n3;have n0:=y.out.ai;have n1:=y.out.aj;have n2:=y.out.aq;have n3:=y.out.aK
                 clear d)
     have t0:=H.out.pb.ai;have t1:=H.out.pb.aj;have y0:=H.out.pb.fz 0;have y1:=H.out.pb.fz 1;go_region;have I:Kp (λb=>b=w.heap.size+1) w1 ((w1.setCell ⟨w.heap.size+1,0,none⟩ (.int .u32 p.1)).setCell ⟨w.heap.size+1,1,none⟩ (.int .i64 p.2)).drew:=(((Kp.refl (λb=>b=w.heap.size+1) w1).set (p:=⟨w.heap.size+1,0,none⟩) (.inl rfl) _).set (p:=⟨w.heap.size+1,1,none⟩) (.inl rfl) _).drew;have an:ag ((w1.setCell ⟨w.heap.size+1,0,none⟩ (.int .u32 p.1)).setCell ⟨w.heap.size+1,1,none⟩ (.int .i64 p.2)).drew (w.heap.size+1) [.int .u32 p.1,.int .i64 p.2] 72:=((H.out.pb.set 0 (.int .u32 p.1)).set 1 (.int .i64 p.2)).drew;obtain⟨V,aC⟩:∃W,((w1.setCell ⟨w.heap.size+1,0,none⟩ (.int .u32 p.1)).setCell ⟨w.heap.size+1,1,none⟩ (.int .i64 p.2)).drew=W:=⟨_,rfl⟩
     rw[aC]at I an ⊢
     clear aC t0 t1 y0 y1;obtain⟨c,j⟩:∃z,z=some (p,x):=⟨_,rfl⟩
     have aD:=aa j;have aE:dx c=x:=by rw[j];rfl
     have aG:fv c=true:=by rw[j];rfl
     have aI:bz c=p:=by rw[j];rfl
     have L:Hid (∀t:Tr,t.az a c=t.az a (some (p,x))):=λ_=>by rw[j]
     have i:Hid (Kp ae w V/\ag V (w.heap.size+1) [.int .u32 (bz c).1,.int .i64 (bz c).2] 72/\ag V w.heap.size [.int .u32 0,.int .i64 0] 72/\Kp ae w V):=by
      have k:=H.out.kp.then I (λb J e=>by omega);exact⟨k,by rw[aI];exact an,H.out.rb.kp I (by omega),k⟩
     have q:=aa (y.out.kp I (by omega));have ao:=(U.out.mono (T:=λb=>b=w.heap.size+1) (λ_ _ x=>x.elim)).trans I;have af:=aa (aQ.out.kp ao (λM J e=>by have:=ac.out M (by simp[Tr.aw,J]);omega));have ak:=aa (aA.out.kp ao (λM J e=>by have:=ac.out M (by simp[Tr.aw,J]);omega));have m1:=q.out.aj;have N:=aa aE;have O:=aa aG;clear an I ao j aE aG aI n0 n1 n2 n3;by_cases D:p.2=32
     ·have s:((p.2:Int)==32)=true:=by rw[Iq];omega
      obtain⟨g,hE⟩:∃x,x=c:=⟨_,rfl⟩
      subst hE;have E:=HF.out.wf;have aB:Hid (g=T.az a none):=by
       show _=_;rw[<-HF.out.eq,Tr.c6 S,Tr.gV E.2.1 D,Tr.gV E.2.2.1 D];simp only[Tr.az,ite_self];exact aD.out
      have Z:Hid (Kp ae w V/\ag V w.heap.size [.int .u32 0,.int .i64 0] 72):=⟨i.out.1,i.out.2.2.1⟩
      have p0:=i.out.2.1.ai;have p1:=i.out.2.1.aj;clear E D
      go_wp2_with(refine b0 rfl 72 (.tmp 4) (.tmp 56) rfl Z.out.2 [.int .u32 (bz g).1,.int .i64 (bz g).2] rfl rfl (by kernel_rfl) rfl (by simp[Value.oneCell']) ?_
                  intro W2 m _ o
                  have A:=aa m;have B:=aa (o _ _ Z.out.1 (.inr (Hm _)));clear m o)
      refine fu (by rfl) A.out _ Tryz.underlying72 rfl (by kernel_rfl) (by rfl) ?_;refine⟨?_,B.out⟩;rw[<-aJ.out,<-aB.out,N.out,O.out];rfl
     ·have s:((p.2:Int)==32)=false:=by rw[HM];omega
      go_wp2_with fail;clear m1 s;have GS:=aa (λW (k:Kp ae V W)=>aF (ff W b p ((q.out.kp k (λx=>x)).aj) (by have:=(a8.1 Q.1).1;omega) a ha));have q4:=q.out.a_;have q5:=q.out.bN;rcases bn p a with X|X
      ·rw[X]at GS
       refine ar 8 (by kernel_rfl) (λ_ _ _ _ _ h=>h) ?_;simp only[aO]
       repeat((first
        |refine ay (by rfl) (by as_aux_lemma=>intro W F;have e0:=F.cell q4 (λx=>x);go_simp;exact rfl) ?_
        |refine ah (by rfl) ?_
        |refine aR (by rfl) (by as_aux_lemma=>intro W;go_simp;exact⟨rfl,rfl⟩) (by intro W F;with_reducible first|exact GS.out W F) ?_);simp only[Act.put,aH])
       intro W5 f;have G:Hid (jv w W5 T l a c):=⟨af.out.old f,HF.out.wf.2.2.2.1,λM J=>HF.out.low M (by simp[Tr.aw,J]),by rw[<-HF.out.eq,Tr.c6 S,Hl X]<;>exact L.out l,i.out.2.1.kp f (λx=>x),i.out.2.2.1.kp f (λx=>x),i.out.2.2.2.trans f⟩
       have hlen:=hk;simp only[Tr.bq,Hs,HK]at hlen;clear f q4 q5 GS;go_wp2_with fail;go_roundg l.bq.length
       case measure=>omega
       case rel=>exact⟨l,c,_,rfl,by first|rfl|rw[N.out],by first|rfl|rw[O.out],Hm _,rfl,G.out⟩
      ·rw[X]at GS
       have al:¬aZ p a=0:=by omega
       refine ar 8 (by kernel_rfl) (λ_ _ _ _ _ h=>h) ?_;simp only[aO]
       repeat((first
        |refine ay (by rfl) (by as_aux_lemma=>intro W F;have e0:=F.cell q5 (λx=>x);go_simp;exact rfl) ?_
        |refine ah (by rfl) ?_
        |refine aR (by rfl) (by as_aux_lemma=>intro W;go_simp;exact⟨rfl,rfl⟩) (by intro W F;with_reducible first|exact GS.out W F) ?_);simp only[Act.put,aH])
       intro W5 f;have G:Hid (jv w W5 T r a c):=⟨ak.out.old f,HF.out.wf.2.2.2.2,λM J=>HF.out.low M (by simp[Tr.aw,J]),by rw[<-HF.out.eq,Tr.c6 S,Hk al]<;>exact L.out r,i.out.2.1.kp f (λx=>x),i.out.2.2.1.kp f (λx=>x),i.out.2.2.2.trans f⟩
       have hlen:=hk;simp only[Tr.bq,Hs,HK]at hlen;clear f q4 q5 GS;go_wp2_with fail;go_roundg r.bq.length
       case measure=>omega
       case rel=>exact⟨r,c,_,rfl,by first|rfl|rw[N.out],by first|rfl|rw[O.out],Hm _,rfl,G.out⟩
structure lF (w wr:World) (T t:Tr) (p:Px):Prop where
 mem:cy wr t
 wf:t.WF
 eq:eg t p=eg T p
 pb:ag wr w.heap.size [.int .u32 p.1,.int .i64 p.2] 72
 kp:Kp ae w wr
def lF.old{w wr w':World}{T t:Tr}{p:Px}(h:lF w wr T t p)(k:Kp ae wr w'):lF w w' T t p:=
 ⟨h.mem.old k,h.wf,h.eq,h.pb.kp k (λx=>x),h.kp.trans k⟩
def r3(w:World)(tb:Nat)(T:Tr)(n:Int)(hT:ag w tb [T.ptr,.int .i64 n] 140)(hM:cy w T)(hw:T.WF)(p:Px)(hp:dt p):
    Calls Tryz.prog 64 #[.pointer (some ⟨tb,0,none⟩),.agg #[.int .u32 p.1,.int .i64 p.2]] w λe w'=>e=.returned (eg T p)/\Kp ae w w':=by
 have i:=(Kp.refl ae w).alloc (.cells #[.int .u32 p.1,.int .i64 p.2] 72);have j:ag (w.alloc (.cells #[.int .u32 p.1,.int .i64 p.2] 72)) w.heap.size [.int .u32 p.1,.int .i64 p.2] 72:=ag.new w [.int .u32 p.1,.int .i64 p.2] _;obtain⟨W1,F⟩:∃W,W=w.alloc (.cells #[.int .u32 p.1,.int .i64 p.2] 72):=⟨_,rfl⟩
 rw[<-F]at i j
 have an:=(a8.1 hp.1).1;have GR:=aa (λW=>hr p.1 p.2 W hp.2 (by omega));have ao:bs p.1 p.2=true:=hp.1;rw[ao]at GR
 have V:Hid (lF w W1 T T p):=⟨hM.old i,hw,rfl,j,i⟩
 have aq:=aa (hT.kp i (λx=>x));have c0:=aq.out.ai;have p0:=j.ai;have p1:=j.aj;obtain⟨O,A⟩:∃v,T.ptr=v:=⟨_,rfl⟩
 have X:=aa A;rw[A]at c0
 obtain⟨R,Y⟩:∃R,eg T p=R:=⟨_,rfl⟩
 have P:=aa Y;rw[Y];clear hT hM hw i j A Y ao;subst F;go_enter Tryz.func64,Tryz.ntmps64
 go_wp2_with(go_at_call 39;refine(GR.out _).mono ?_;rintro e w1 ⟨rfl,i⟩
             have HF:=aa (V.out.old i);have c0:=i.cell c0 (λx=>x)
             clear i p0 p1 aq)
 go_loopg [5] T.bq.length (λk s5 wr=>∃(t:Tr) (O:Value),O=s5/\t.bq.length<=k/\Hid (t.ptr=O/\lF w wr T t p))
 case atStart=>exact⟨T,_,rfl,Hm _,X.out,HF.out⟩
 case round=>
  clear HF c0;obtain⟨t,O,rfl,hk,Q⟩:=hrel;cases t with
  |nil=>
   obtain⟨B,hi⟩:=Q.out;obtain rfl:=B;have HF:=aa hi;simp only[Tr.ptr];clear hi Q;have y:eg T p=.pointer none:=by rw[<-HF.out.eq];rfl
   have Z:=aa y;clear y;go_wp2_with fail;go_region;go_wp2_with fail;go_ret;exact⟨by rw[<-P.out,Z.out];rfl,HF.out.kp.drew⟩
  |node b kp u x l r=>
   obtain⟨B,hi⟩:=Q.out;obtain rfl:=B;have HF:=aa hi;obtain⟨E,G,H⟩:=hi.mem;have n0:=E.ai;have n1:=E.aj;have n4:=E.a_;have n5:=E.bN;have z:=hi.pb.ai;have q1:=hi.pb.aj;have I:=hi.wf.1;have au:=(a8.1 I.1).1;have NQ:=qN kp p;simp only[Tr.ptr];have Z:=aa E;have av:=aa G;have ac:=aa H;clear hi Q E G H;by_cases d:kp=p
   ·have hd:decide (kp=p)=true:=Hz d;simp only[hd]at NQ;have a:eg T p=.pointer (some ⟨b,0,none⟩):=by rw[<-HF.out.eq];unfold eg Tr.at_;rw[Hl d]
    have o:=aa a;clear a hd d;go_wp2_with fail;go_region;go_wp2_with fail;go_ret;exact⟨by rw[<-P.out,o.out];rfl,HF.out.kp.drew⟩
   ·have hd:decide (kp=p)=false:=HN d;simp only[hd]at NQ;have J:=hp.2;have ad:=I.2;go_wp2_with fail;go_region;by_cases hb:p.2<=kp.2
    ·have a:eg T p=.pointer none:=by rw[<-HF.out.eq];unfold eg Tr.at_;rw[Hk d,Hl (.inl hb)]
     have o:=aa a;have q:decide ((kp.2:Int)≥(p.2:Int))=true:=by rw[HI];omega
     clear a hd d q;go_wp2_with fail;go_region;go_wp2_with fail;go_ret;exact⟨by rw[<-P.out,o.out];rfl,HF.out.kp.drew.drew⟩
    ·have q:decide ((kp.2:Int)≥(p.2:Int))=false:=by rw[Io];omega
     have K:=aa (λW=>iN kp.1 p.1 kp.2 p.2 W ad J (by omega) (by omega));have C:=aa hb;have L:=aa d;cases S:bT kp p with
     |false=>
      have a:eg T p=.pointer none:=by rw[<-HF.out.eq];unfold eg Tr.at_;rw[Hk d,Hl (.inr S)]
      have o:=aa a;rw[show gj kp.1 kp.2 p.1 p.2=false from S]at K
      clear a hd d q;go_wp2_with fail;refine ar 15 (by kernel_rfl) (λ_ _ _ _ _ h=>h) ?_;simp only[aO]
      repeat((first
        |refine ay (by rfl) (by as_aux_lemma=>intro W f;have e0:=f.cell n0 (λx=>x);have e1:=f.cell n1 (λx=>x);have e2:=f.cell z (λx=>x);have e3:=f.cell q1 (λx=>x);go_simp;exact rfl) ?_
        |refine ah (by rfl) ?_
        |refine aR (by rfl) (by as_aux_lemma=>intro W;go_simp;exact⟨rfl,rfl⟩) (by intro W f;with_reducible first|exact K.out W) ?_);simp only[Act.put,aH])
      intro W5 g;have af:=aa ((Kp.refl ae wr).drew.trans g);clear g;go_wp2_with fail;go_ret;exact⟨by rw[<-P.out,o.out];rfl,HF.out.kp.trans af.out⟩
     |true=>
      rw[show gj kp.1 kp.2 p.1 p.2=true from S]at K
      have M:=aa S;clear hd d q;go_wp2_with fail;refine ar 15 (by kernel_rfl) (λ_ _ _ _ _ h=>h) ?_;simp only[aO]
      repeat((first
        |refine ay (by rfl) (by as_aux_lemma=>intro W f;have e0:=f.cell n0 (λx=>x);have e1:=f.cell n1 (λx=>x);have e2:=f.cell z (λx=>x);have e3:=f.cell q1 (λx=>x);go_simp;exact rfl) ?_
        |refine ah (by rfl) ?_
        |refine aR (by rfl) (by as_aux_lemma=>intro W;go_simp;exact⟨rfl,rfl⟩) (by intro W f;with_reducible first|exact K.out W) ?_);simp only[Act.put,aH])
      intro W5 g;replace g:=(Kp.refl ae wr).drew.trans g;have m:=aa (HF.out.old g);have s:=aa (Z.out.kp g (λx=>x));have ak:=aa (av.out.old g);have al:=aa (ac.out.old g);clear g n0 n1 n4 n5 z q1 K;have n1:=s.out.aj;have n4:=s.out.a_;have n5:=s.out.bN;have z:=m.out.pb.ai;have GS:=aa (λW (k:Kp ae W5 W)=>aF (ff W b kp ((s.out.kp k (λx=>x)).aj) (by have:=C.out;omega) p.1 J));rcases bn kp p.1 with U|U
      ·have a:eg l p=eg T p:=by
        rw[<-HF.out.eq]
        conv=>rhs;unfold eg Tr.at_
        rw[Hk L.out,Hk (by rw[M.out];simpa using C.out),Hl U];rfl
       have o:=aa a;rw[U]at GS
       clear a;go_wp2_with fail;refine ar 8 (by kernel_rfl) (λ_ _ _ _ _ h=>h) ?_;simp only[aO]
       repeat((first
           |refine ay (by rfl) (by as_aux_lemma=>intro W f;have e0:=f.cell z (λx=>x);have e1:=f.cell n4 (λx=>x);go_simp;exact rfl) ?_
           |refine ah (by rfl) ?_
           |refine aR (by rfl) (by as_aux_lemma=>intro W;go_simp;exact⟨rfl,rfl⟩) (by intro W f;with_reducible first|exact GS.out W f) ?_);simp only[Act.put,aH])
       intro W6 c;have D:Hid (lF w W6 T l p):=⟨ak.out.old c,HF.out.wf.2.2.2.1,o.out,m.out.pb.kp c (λx=>x),m.out.kp.trans c⟩
       have hlen:=hk;simp only[Tr.bq,Hs,HK]at hlen;have n4:=c.cell n4 (λx=>x);clear c n5 n1 z GS;go_wp2_with fail;go_roundg l.bq.length
       case measure=>omega
       case rel=>exact⟨l,_,rfl,Hm _,rfl,D.out⟩
      ·have N:¬aZ kp p.1=0:=by omega
       have a:eg r p=eg T p:=by
        rw[<-HF.out.eq]
        conv=>rhs;unfold eg Tr.at_
        rw[Hk L.out,Hk (by rw[M.out];simpa using C.out),Hk N];rfl
       have o:=aa a;rw[U]at GS
       clear a N;go_wp2_with fail;refine ar 8 (by kernel_rfl) (λ_ _ _ _ _ h=>h) ?_;simp only[aO]
       repeat((first
           |refine ay (by rfl) (by as_aux_lemma=>intro W f;have e0:=f.cell z (λx=>x);have e1:=f.cell n5 (λx=>x);go_simp;exact rfl) ?_
           |refine ah (by rfl) ?_
           |refine aR (by rfl) (by as_aux_lemma=>intro W;go_simp;exact⟨rfl,rfl⟩) (by intro W f;with_reducible first|exact GS.out W f) ?_);simp only[Act.put,aH])
       intro W6 c;have D:Hid (lF w W6 T r p):=⟨al.out.old c,HF.out.wf.2.2.2.2,o.out,m.out.pb.kp c (λx=>x),m.out.kp.trans c⟩
       have hlen:=hk;simp only[Tr.bq,Hs,HK]at hlen;have n5:=c.cell n5 (λx=>x);clear c n4 n1 z GS;go_wp2_with fail;go_roundg r.bq.length
       case measure=>omega
       case rel=>exact⟨r,_,rfl,Hm _,rfl,D.out⟩
abbrev dY:TypeId:=144
def pC(T:Tr):Prop:=∀(w:World) (nb:Nat) (a:Px) (nx:Nat),gK T a->cy w T->T.WF->T.aw.Nodup->ag w nb (bM a true nx .nil .nil) dY->nb∉T.aw->dt a->a∉T.bq->
 Calls Tryz.prog 65 #[T.ptr,.pointer (some ⟨nb,0,none⟩)] w λe w'=>e=.returned (.tuple #[])/\∃fb,w.heap.size<=fb/\cy w' (T.lay nb a nx fb)/\Kp (λb=>b∈T.aw\/b=nb) w w'
def r9{W:World}{k2:Nat}{c:Px}{u2:Bool}{x2:Nat}{l2 r2:Tr}{b:Px}{nb nx a:Nat}(fb:Nat)(h:bT c b=false)(d:bF c b=b)(ha:aZ b c.1=a)(e:ag W nb ((bM b true nx .nil .nil).set (4+a) (.pointer (some ⟨k2,0,none⟩))) dY)(f:cy W (.node k2 c u2 x2 l2 r2)):
    cy W ((Tr.node k2 c u2 x2 l2 r2).lay nb b nx fb)/\((Tr.node k2 c u2 x2 l2 r2).lay nb b nx fb).ptr=.pointer (some ⟨nb,0,none⟩):=by
 unfold Tr.lay;rw[Hk (by rw[h];decide),Hl d,ha];have g:=bn b c.1;rw[ha]at g
 rcases g with rfl|rfl
 ·exact⟨⟨e,f,trivial⟩,rfl⟩
 ·exact⟨⟨e,trivial,f⟩,rfl⟩
def m_{W:World}{k2:Nat}{b:Px}{u2:Bool}{x2:Nat}{l2 r2:Tr}{a c:Px}{nb nx fb a1 a2:Nat}(d:dt b)(e:dt a)(k:bT b a=false)(h:bF b a=c)(f:c≠a)(i:aZ c a.1=a1)(l:aZ c b.1=a2)
    (m:ag W fb (((bM c false 0 .nil .nil).set (4+a1) (.pointer (some ⟨nb,0,none⟩))).set (4+a2) (.pointer (some ⟨k2,0,none⟩))) dY) (o:ag W nb (bM a true nx .nil .nil) dY) (n:cy W (.node k2 b u2 x2 l2 r2)):
    cy W ((Tr.node k2 b u2 x2 l2 r2).lay nb a nx fb)/\((Tr.node k2 b u2 x2 l2 r2).lay nb a nx fb).ptr=.pointer (some ⟨fb,0,none⟩):=by
 subst h;have j:=mQ d e k (oR d e f);rw[i,l]at j
 have t1:=bn (bF b a) a.1;have t2:=bn (bF b a) b.1;rw[i]at t1
 rw[l]at t2
 unfold Tr.lay;rw[Hk (by rw[k];decide),Hk f,i];have g:cy W (.node nb a true nx .nil .nil):=⟨o,trivial,trivial⟩
 rcases t1 with rfl|rfl
 ·rcases t2 with rfl|rfl
  ·exact absurd rfl j
  ·exact⟨⟨m,g,n⟩,rfl⟩
 ·rcases t2 with rfl|rfl
  ·exact⟨⟨m,n,g⟩,rfl⟩
  ·exact absurd rfl j
def pF(w:World)(y nb nx s:Nat)(kp f:Px)(cs:List Value)(t:Tr)(hB:ag w y cs dY)(aI:cs[1]? =some (.int .i64 kp.2))(hs:aZ kp f.1=s)(hk:cs[4+s]? =some t.ptr)(be:kp.2<=31)
    (hM:cy w t) (hw:t.WF) (aJ:t.aw.Nodup) (aK:y∉t.aw) (hN:ag w nb (bM f true nx .nil .nil) dY) (aL:nb∉t.aw) (aM:nb≠y) (A:dt f) (aN:f∉t.bq) (ih:pC t):
    Calls Tryz.prog 65 #[.pointer (some ⟨y,0,none⟩),.pointer (some ⟨nb,0,none⟩)] w λe w'=>e=.returned (.tuple #[])/\∃fb,w.heap.size<=fb/\cy w' (t.lay nb f nx fb)/\ag w' y (cs.set (4+s) (t.lay nb f nx fb).ptr) dY/\Kp (λb=>b∈t.aw\/b=nb\/b=y) w w':=by
 have bN:s<2:=by have:=bn kp f.1;omega
 have GS:=aa (λW (k:Kp ae w W)=>aF (ff W y kp ((hB.kp k (λx=>x)).cell 1 aI) be f.1 A.2));rw[hs]at GS
 have z:=hB.cell (4+s) hk;have m0:=hN.ai;have bG:=aa hB;have bH:=aa hM;have bI:=aa hw;have bf:=aa aJ;have al:=aa aK;have bK:=aa hN;have aP:=aa aL;have J:=aa aM;have aQ:=aa aN;have bg:=aa ih;have bi:=aa hk;clear hB aI hM hw aJ aK hN aL aM aN ih hk hs;go_enter Tryz.func65,Tryz.ntmps65;go_wp2_with fail;refine ar 10 (by kernel_rfl) (λ_ _ _ _ _ h=>h) ?_;simp only[aO]
 repeat((first
    |refine ay (by rfl) (by as_aux_lemma=>intro W j;have e0:=j.cell m0 (λx=>x);go_simp;exact rfl) ?_
    |refine ah (by rfl) ?_
    |refine aR (by rfl) (by as_aux_lemma=>intro W;go_simp;exact⟨rfl,rfl⟩) (by intro W j;with_reducible first|exact GS.out W j) ?_);simp only[Act.put,aH])
 intro W1 G;have z:=G.cell z (λx=>x);have X:=aa (bG.out.kp G (λx=>x));have K:=aa (bK.out.kp G (λx=>x));have an:=aa (bH.out.old G);have Y:=aa G;clear G m0 GS bG bK bH;cases t with
 |nil=>
  simp only[Tr.ptr]at z;have f4:=X.out.fz (4+s);go_wp2_with fail;refine HT (If rfl _ _ _) rfl ?_;have o:Kp (λb=>b=y) W1 (W1.setCell ⟨y,4+s,none⟩ (.pointer (some ⟨nb,0,none⟩))):=(Kp.refl (λb=>b=y) W1).set (p:=⟨y,4+s,none⟩) (.inl rfl) _;exact⟨rfl,w.heap.size,Hm _,⟨K.out.kp o J.out,trivial,trivial⟩,X.out.set (4+s) _,(Y.out.mono (λ_ _ x=>x.elim)).trans (o.mono (λ_ _ x=>.inr (.inr x)))⟩
 |node k2 n u2 x2 l2 r2=>
  obtain⟨ao,bj,bl⟩:=an.out;have B:=bI.out.1;have d0:=ao.ai;have d1:=ao.aj;have H:=K.out.ai;have n1:=K.out.aj;have aq:n≠f:=λe=>aQ.out (by rw[e];simp[Tr.bq]);have aS:decide (n=f)=false:=HN aq;have EQ:=C3 n f;simp only[aS]at EQ;simp only[Tr.ptr]at z;have bO:=(a8.1 B.1).1;have bL:=(a8.1 A.1).1;have aT:=aa (λW=>iN n.1 f.1 n.2 f.2 W B.2 A.2 (by omega) (by omega));have bP:=aa aq;clear ao bj bl aS aq;go_wp2_with fail;go_region;go_wp2_with fail;cases hc:bT n f with
  |true=>
   rw[show gj n.1 n.2 f.1 f.2=true from hc]at aT
   have L:=aa hc;refine ar 9 (by kernel_rfl) (λ_ _ _ _ _ h=>h) ?_;simp only[aO]
   repeat((first
    |refine ay (by rfl) (by as_aux_lemma=>intro W j;have e0:=j.cell d0 (λx=>x);have e1:=j.cell d1 (λx=>x);have e2:=j.cell H (λx=>x);have e3:=j.cell n1 (λx=>x);go_simp;exact rfl) ?_
    |refine ah (by rfl) ?_
    |refine aR (by rfl) (by as_aux_lemma=>intro W;go_simp;exact⟨rfl,rfl⟩) (by intro W j;with_reducible first|exact aT.out W) ?_);simp only[Act.put,aH])
   intro W2 l;replace l:=(Kp.refl ae W1).drew.trans l;have M:=aa l;have bQ:=aa (bg.out W2 nb f nx hc (an.out.old l) bI.out bf.out (K.out.kp l (λx=>x)) aP.out A aQ.out);clear l d0 d1 H n1 hc EQ z
   go_wp2_with(go_at_call 65;refine bQ.out.mono ?_;rintro e w3 ⟨rfl,fb,aU,aV,N⟩
               have au:=aa N;have O:=aa aV;have bm:=aa aU;clear N aV aU)
   refine HT (If rfl _ _ _) rfl ?_;refine⟨rfl,fb,Hy Y.out.size (Hy M.out.size bm.out),O.out,?_,?_⟩
   ·rw[pE L.out,q0 (v:=.pointer (some ⟨k2,0,none⟩)) bi.out];exact(X.out.kp M.out (λx=>x)).kp au.out (λh=>h.elim al.out (λe=>J.out e.symm))
   ·exact((Y.out.trans M.out).mono (λ_ _ x=>x.elim)).trans (au.out.mono (λ_ _ x=>x.imp_right .inl))
  |false=>
   rw[show gj n.1 n.2 f.1 f.2=false from hc]at aT
   have L:=aa hc;refine ar 9 (by kernel_rfl) (λ_ _ _ _ _ h=>h) ?_;simp only[aO]
   repeat((first
    |refine ay (by rfl) (by as_aux_lemma=>intro W j;have e0:=j.cell d0 (λx=>x);have e1:=j.cell d1 (λx=>x);have e2:=j.cell H (λx=>x);have e3:=j.cell n1 (λx=>x);go_simp;exact rfl) ?_
    |refine ah (by rfl) ?_
    |refine aR (by rfl) (by as_aux_lemma=>intro W;go_simp;exact⟨rfl,rfl⟩) (by intro W j;with_reducible first|exact aT.out W) ?_);simp only[Act.put,aH])
   intro W2 l;replace l:=(Kp.refl ae W1).drew.trans l;have M:=aa l;have d0:=l.cell d0 (λx=>x);have d1:=l.cell d1 (λx=>x);have H:=l.cell H (λx=>x);have n1:=l.cell n1 (λx=>x);have z:=l.cell z (λx=>x);have aW:=aa (λW=>tr W n f B A);clear l hc EQ aT;go_wp2_with fail;refine c5 [] [0,1,2,3,4,5,6,7,8] 9 10 ([.int .u32 0,.int .i64 0]) 72 (by kernel_rfl) (by kernel_rfl) (λc a d u w h=>by cases d<;>exact h) rfl rfl (λ_ _=>by kernel_rfl) ?_;simp only[pick,aO];show dJ _ _ _ _ _ _
   repeat((first
    |refine ay (by rfl) (by as_aux_lemma=>intro W j;have e0:=j.cell d0 (λx=>x);have e1:=j.cell d1 (λx=>x);have e2:=j.cell H (λx=>x);have e3:=j.cell n1 (λx=>x);go_simp;exact rfl) ?_
    |refine ah (by rfl) ?_
    |refine aR (by rfl) (by as_aux_lemma=>intro W;go_simp;exact⟨rfl,rfl⟩) (by intro W j;with_reducible first|exact aW.out W) ?_);simp only[Act.put,aH])
   show ∀b W,_->_->_->wpList _ _ _ _ _ _;simp only[Act.put,aH];intro g w3 aX I N;have z0:w3.cell? ⟨g,0,none⟩=some (.int .u32 0):=I.ai;have z1:w3.cell? ⟨g,1,none⟩=some (.int .i64 0):=I.aj;have y0:w3.frozen? ⟨g,0,none⟩=false:=I.fz 0;have y1:w3.frozen? ⟨g,1,none⟩=false:=I.fz 1;have P:=aa (show W2.heap.size<=g/\ag w3 g [.int .u32 0,.int .i64 0] 72/\Kp ae W2 w3 from⟨aX,I,N⟩);clear aX I N;go_wp2_with fail;have C:Kp ae W2 ((w3.setCell ⟨g,0,none⟩ (.int .u32 (bF n f).1)).setCell ⟨g,1,none⟩ (.int .i64 (bF n f).2)):=(P.out.2.2.set (p:=⟨g,0,none⟩) (.inr P.out.1) _).set (p:=⟨g,1,none⟩) (.inr P.out.1) _;have Q:ag ((w3.setCell ⟨g,0,none⟩ (.int .u32 (bF n f).1)).setCell ⟨g,1,none⟩ (.int .i64 (bF n f).2)) g [.int .u32 (bF n f).1,.int .i64 (bF n f).2] 72:=(P.out.2.1.set 0 _).set 1 _;obtain⟨D,aY⟩:∃W,(w3.setCell ⟨g,0,none⟩ (.int .u32 (bF n f).1)).setCell ⟨g,1,none⟩ (.int .i64 (bF n f).2)=W:=⟨_,rfl⟩
   rw[aY]at C Q ⊢
   clear aY z0 z1 y0 y1 P;have au:=aa C;have bR:=aa Q;have R:=M.out.trans C;have O:=aa (an.out.old R);have Z:=aa (K.out.kp R (λx=>x));have av:=aa (X.out.kp R (λx=>x));have S:=aa (Y.out.trans R);have hl:bh n f<n.2:=oq B A L.out;have bp:(bF n f).2<n.2:=hl;have a0:=jj (q:=f) B.1;have d0:=C.cell d0 (λx=>x);have z:=C.cell z (λx=>x);have H:=C.cell H (λx=>x);have n1:=C.cell n1 (λx=>x);have c0:=Q.ai;have c1:=Q.aj;obtain⟨c,ax⟩:∃c,bF n f=c:=⟨_,rfl⟩
   rw[ax]at c0 c1 bp a0
   have a3:=aa ax;have bX:=aa hl;clear C Q R ax hl d1 aW;by_cases E:c=f
   ·have hd:decide (c=f)=true:=Hz E;have NQ:=qN c f;simp only[hd]at NQ;have az:=aa E;have a4:f.2<=31:=by rw[<-E];omega
    obtain⟨a,ha⟩:∃a,aZ f n.1=a:=⟨_,rfl⟩
    have bS:a<2:=by have:=bn f n.1;omega
    have a5:=aa (λW (k:Kp ae D W)=>aF (ff W nb f ((Z.out.kp k (λx=>x)).aj) a4 n.1 B.2));rw[ha]at a5
    have bU:=aa ha;clear hd E ha;go_wp2_with fail;go_region;go_wp2_with fail;refine ar 11 (by kernel_rfl) (λ_ _ _ _ _ h=>h) ?_;simp only[aO]
    repeat((first
      |refine ay (by rfl) (by as_aux_lemma=>intro W j;have e0:=j.cell d0 (λx=>x);go_simp;exact rfl) ?_
      |refine ah (by rfl) ?_
      |refine aR (by rfl) (by as_aux_lemma=>intro W;go_simp;exact⟨rfl,rfl⟩) (by intro W j;with_reducible first|exact a5.out W ((Kp.refl ae D).drew.trans j)) ?_);simp only[Act.put,aH])
    intro W4 r;replace r:=(Kp.refl ae D).drew.trans r;have U:=aa r;have aA:=aa (Z.out.kp r (λx=>x));have a6:=aa (av.out.kp r (λx=>x));have br:=aa (O.out.old r);obtain⟨v,hv⟩:∃v,(bM f true nx .nil .nil)[4+a]? =some v:=⟨_,Hn (by simp[bM];omega)⟩
    have m4:=aA.out.cell (4+a) hv;have y4:=aA.out.fz (4+a);have b5:=r.cell z (λx=>x);have y5:=a6.out.fz (4+s);have bs:nb≠y:=J.out;have bu:y≠nb:=λe=>J.out e.symm;clear r z d0 H n1 c0 c1 NQ hv;go_wp2_with fail;go_end0;have o:Kp (λb=>b=nb\/b=y) W4 ((W4.setCell ⟨nb,4+a,none⟩ (.pointer (some ⟨k2,0,none⟩))).setCell ⟨y,4+s,none⟩ (.pointer (some ⟨nb,0,none⟩))):=((Kp.refl (λb=>b=nb\/b=y) W4).set (p:=⟨nb,4+a,none⟩) (.inl (.inl rfl)) _).set (p:=⟨y,4+s,none⟩) (.inl (.inr rfl)) _;obtain⟨m,pe⟩:=r9 (nx:=nx) (u2:=u2) (x2:=x2) (l2:=l2) (r2:=r2) w.heap.size L.out (a3.out.trans az.out) bU.out ((aA.out.set (4+a) (.pointer (some ⟨k2,0,none⟩))).bJ (a:=⟨y,4+s,none⟩) bs (.pointer (some ⟨nb,0,none⟩))) (br.out.kp o (λb hb e=>e.elim (λe=>aP.out (e▸hb)) (λe=>al.out (e▸hb))));refine⟨rfl,w.heap.size,Hm _,m,?_,(((S.out.trans U.out).mono (λ_ _ x=>x.elim)).trans (o.mono (λ_ _ x=>.inr x)))⟩;rw[pe];exact(a6.out.bJ (a:=⟨nb,4+a,none⟩) bu _).set (4+s) _
   ·have hd:decide (c=f)=false:=HN E;have NQ:=qN c f;simp only[hd]at NQ;have az:=aa E;obtain⟨a1,h1⟩:∃a,aZ c f.1=a:=⟨_,rfl⟩
    obtain⟨a2,h2⟩:∃a,aZ c n.1=a:=⟨_,rfl⟩
    have l1:a1<2:=by have:=bn c f.1;omega
    have bV:a2<2:=by have:=bn c n.1;omega
    have bv:=aa h1;have bw:=aa h2;clear hd E;go_wp2_with fail;go_region;go_wp2_with fail;have r:Kp ae D (D.alloc (.cells #[.int .u32 c.1,.int .i64 c.2,.bool false,.int .i64 0,.pointer none,.pointer none] 144)).drew:=((Kp.refl ae D).alloc _).drew;have hG:ag (D.alloc (.cells #[.int .u32 c.1,.int .i64 c.2,.bool false,.int .i64 0,.pointer none,.pointer none] 144)).drew D.heap.size (bM c false 0 .nil .nil) dY:=(ag.new D (bM c false 0 .nil .nil) dY).drew;obtain⟨W4,a7⟩:∃W,(D.alloc (.cells #[.int .u32 c.1,.int .i64 c.2,.bool false,.int .i64 0,.pointer none,.pointer none] 144)).drew=W:=⟨_,rfl⟩
    have gn:nb≠D.heap.size:=IW Z.out.lt;have gk:y≠D.heap.size:=IW av.out.lt;have gt:∀b∈(Tr.node k2 n u2 x2 l2 r2).aw,b≠D.heap.size:=λb hb=>IW (O.out.lt b hb);have gw:w.heap.size<=D.heap.size:=S.out.size;obtain⟨g2,aB⟩:∃g,D.heap.size=g:=⟨_,rfl⟩
    rw[aB]at hG gn gk gt gw ⊢
    rw[a7]at r hG ⊢
    have a9:=aa gt;have a_:=aa gw;have bz:=aa aB;have aC:=aa (λW (k:Kp ae W4 W)=>aF (ff W g2 c ((hG.kp k (λx=>x)).aj) (by omega) f.1 A.2));rw[h1]at aC
    have U:=aa r;have bW:=aa hG;have H:=r.cell H (λx=>x);have d0:=r.cell d0 (λx=>x);have z:=r.cell z (λx=>x);clear a7 aB r hG gt gw h1 c0 c1 n1 NQ;refine ar 11 (by kernel_rfl) (λ_ _ _ _ _ h=>h) ?_;simp only[aO]
    repeat((first
      |refine ay (by rfl) (by as_aux_lemma=>intro W j;have e0:=j.cell H (λx=>x);go_simp;exact rfl) ?_
      |refine ah (by rfl) ?_
      |refine aR (by rfl) (by as_aux_lemma=>intro W;go_simp;exact⟨rfl,rfl⟩) (by intro W j;with_reducible first|exact aC.out W j) ?_);simp only[Act.put,aH])
    intro W5 V;have bA:=aa V;have aD:=aa (bW.out.kp V (λx=>x));obtain⟨v,hv⟩:∃v,(bM c false 0 .nil .nil)[4+a1]? =some v:=⟨_,Hn (by simp[bM];omega)⟩
    have m4:=aD.out.cell (4+a1) hv;have y4:=aD.out.fz (4+a1);have d0:=V.cell d0 (λx=>x);have z:=V.cell z (λx=>x);clear V hv H aC;go_wp2_with fail;have o:Kp (λb=>b=g2) W5 (W5.setCell ⟨g2,4+a1,none⟩ (.pointer (some ⟨nb,0,none⟩))):=(Kp.refl (λb=>b=g2) W5).set (p:=⟨g2,4+a1,none⟩) (.inl rfl) _;have ac:=aD.out.set (4+a1) (.pointer (some ⟨nb,0,none⟩));obtain⟨W6,ba⟩:∃W,W5.setCell ⟨g2,4+a1,none⟩ (.pointer (some ⟨nb,0,none⟩))=W:=⟨_,rfl⟩
    rw[ba]at o ac ⊢
    have af:∀i,i<D.heap.size->i≠g2:=λi hi=>by rw[<-bz.out];omega
    have ak:Kp ae D W6:=(U.out.trans bA.out).then o (λi hi e=>absurd e (af i hi));have d0:=o.cell d0 (a9.out k2 (by simp[Tr.aw]));have z:=o.cell z gk;have aE:=aa (λW (k:Kp ae W6 W)=>aF (ff W g2 c ((ac.kp k (λx=>x)).cell 1 (by rw[HL (by omega)];rfl)) (by omega) n.1 B.2));rw[h2]at aE
    have bB:=aa ac;have bb:=aa ak;clear ba o ac af ak m4 y4 h2;refine ar 11 (by kernel_rfl) (λ_ _ _ _ _ h=>h) ?_;simp only[aO]
    repeat((first
      |refine ay (by rfl) (by as_aux_lemma=>intro W j;have e0:=j.cell d0 (λx=>x);go_simp;exact rfl) ?_
      |refine ah (by rfl) ?_
      |refine aR (by rfl) (by as_aux_lemma=>intro W;go_simp;exact⟨rfl,rfl⟩) (by intro W j;with_reducible first|exact aE.out W j) ?_);simp only[Act.put,aH])
    intro W7 ad;have F:=aa (bb.out.trans ad);have aG:=aa (bB.out.kp ad (λx=>x));obtain⟨v2,hv⟩:∃v,((bM c false 0 .nil .nil).set (4+a1) (.pointer (some ⟨nb,0,none⟩)))[4+a2]? =some v:=⟨_,Hn (by simp[bM];omega)⟩
    have m4:=aG.out.cell (4+a2) hv;have y4:=aG.out.fz (4+a2);have bc:=aa (av.out.kp F.out (λx=>x));have bC:=aa (Z.out.kp F.out (λx=>x));have bD:=aa (O.out.old F.out);have b5:=ad.cell z (λx=>x);have y5:=bc.out.fz (4+s);have bE:g2≠y:=λe=>gk e.symm;clear ad hv z d0 aE;go_wp2_with fail;go_end0;have o:Kp (λb=>b=g2\/b=y) W7 ((W7.setCell ⟨g2,4+a2,none⟩ (.pointer (some ⟨k2,0,none⟩))).setCell ⟨y,4+s,none⟩ (.pointer (some ⟨g2,0,none⟩))):=((Kp.refl (λb=>b=g2\/b=y) W7).set (p:=⟨g2,4+a2,none⟩) (.inl (.inl rfl)) _).set (p:=⟨y,4+s,none⟩) (.inl (.inr rfl)) _;obtain⟨m,pe⟩:=m_ (nx:=nx) (u2:=u2) (x2:=x2) (l2:=l2) (r2:=r2) B A L.out a3.out az.out bv.out bw.out ((aG.out.set (4+a2) (.pointer (some ⟨k2,0,none⟩))).bJ (a:=⟨y,4+s,none⟩) bE (.pointer (some ⟨g2,0,none⟩))) (bC.out.kp o (λe=>e.elim gn J.out)) (bD.out.kp o (λb hb e=>e.elim (a9.out b hb) (λe=>al.out (e▸hb))));refine⟨rfl,g2,a_.out,m,?_,?_⟩
    ·rw[pe];exact(bc.out.bJ (a:=⟨g2,4+a2,none⟩) gk _).set (4+s) _
    ·exact((S.out.trans F.out).mono (T:=λb=>b∈(Tr.node k2 n u2 x2 l2 r2).aw\/b=nb\/b=y) (λ_ _ x=>x.elim)).then o (λi hi e=>e.elim (λe=>by have:=a_.out;omega) (λe=>.inr (.inr e)))
def vi(T:Tr):pC T:=by
 induction T with
 |nil=>intro w nb j nx t;exact t.elim
 |node A kp B C u v F G=>
  intro w nb j nx t H hw m D a k d;obtain⟨E,n,o⟩:=H;obtain⟨I,w1,M,w3,J⟩:=hw;simp only[Tr.aw,H6,Hu,not_or,Ib]at m;obtain⟨⟨p,q⟩,x,y,g⟩:=m;simp only[Tr.aw,Ho,Hu,not_or]at a;simp only[Tr.bq,Ho,Hu,not_or]at d;have f:bT kp j=true:=t;have K:kp.2<j.2:=by
   rcases HW kp.2 j.2 with h|h
   ·exact h
   ·exact absurd (iL f (by have:=lX f;omega)).symm d.1
  have L:=(a8.1 k.1).1;rcases bn kp j.1 with s|s
  ·refine(pF w A nb nx 0 kp j (bM kp B C u v) u E rfl s rfl (by omega) n w3 x p D a.2.1 a.1 k d.2.1 F).mono ?_;rintro e w' ⟨he,fb,l,hm,z,r⟩;refine⟨he,fb,l,?_,r.mono (λi _ hi=> ?_)⟩
   ·unfold Tr.lay;rw[Hl f,Hl s];refine⟨z,hm,o.kp r (λb c h=> ?_)⟩;rcases h with h|h|h
    ·exact g b h b c rfl
    ·subst h;exact a.2.2 c
    ·subst h;exact q c
   ·rcases hi with h|h|h
    ·left;simp[Tr.aw,h]
    ·right;exact h
    ·left;simp[Tr.aw,h]
  ·refine(pF w A nb nx 1 kp j (bM kp B C u v) v E rfl s rfl (by omega) o J y q D a.2.2 a.1 k d.2.2 G).mono ?_;rintro e w' ⟨he,fb,l,hm,z,r⟩;refine⟨he,fb,l,?_,r.mono (λi _ hi=> ?_)⟩
   ·unfold Tr.lay;rw[Hl f,Hk (by omega)];refine⟨z,n.kp r (λb c h=> ?_),hm⟩;rcases h with h|h|h
    ·exact g b c b h rfl
    ·subst h;exact a.2.1 c
    ·subst h;exact p c
   ·rcases hi with h|h|h
    ·left;simp[Tr.aw,h]
    ·right;exact h
    ·left;simp[Tr.aw,h]
def cy.at_{w:World}{T:Tr}{p:Px}{b:Nat}{u:Bool}{x:Nat}(a:cy w T)(h:T.at_ p=some (b,u,x)):∃l r,ag w b (bM p u x l r) dY:=by
 induction T with
 |nil=>cases h
 |node j kp k m n o c d=>
  obtain⟨f,g,i⟩:=a;unfold Tr.at_ at h;split at h
  ·rename_i e;cases h;subst e;exact⟨_,_,f⟩
  ·split at h
   ·cases h
   ·split at h
    ·exact c g h
    ·exact d i h
def pG{w w':World}{T:Tr}{p:Px}{b:Nat}{u:Bool}{y x:Nat}(r:cy w T)(f:T.aw.Nodup)(h:T.at_ p=some (b,u,y))(d:Kp (λi=>i=b) w w')
    (s:∀cs,ag w b cs dY->ag w' b ((cs.set 2 (.bool true)).set 3 (.int .i64 x)) dY):cy w' (T.dR p x):=by
 induction T with
 |nil=>cases h
 |node z kp A B C D t v=>
  obtain⟨k,l,m⟩:=r;simp only[Tr.aw,H6,Hu,not_or,Ib]at f;obtain⟨⟨g,j⟩,n,o,c⟩:=f;unfold Tr.at_ at h;unfold Tr.dR;split at h
  ·rename_i e;cases h;rw[Hl e];exact⟨s _ k,l.kp d (λi hi e=>g (e▸hi)),m.kp d (λi hi e=>j (e▸hi))⟩
  ·rename_i e;rw[Hk e];split at h
   ·cases h
   ·split at h
    ·rename_i q;rw[Hl q];have a:=Tr.at_mem h;refine⟨?_,t l n h,m.kp d (λi hi e=>c b a i hi e.symm)⟩;unfold bM;rw[Tr.iV];exact k.kp d (λe=>g (e▸a))
    ·rename_i q;rw[Hk q];have a:=Tr.at_mem h;refine⟨?_,l.kp d (λi hi e=>c i hi b a e),v m o h⟩;unfold bM;rw[Tr.iV];exact k.kp d (λe=>j (e▸a))
abbrev r_:TypeId:=140
structure bV (w:World) (base tb:Nat) (T:Tr) (n:Nat):Prop where
 blk:ag w tb [T.ptr,.int .i64 n] r_
 mem:cy w T
 wf:T.WF
 nd:T.aw.Nodup
 out:tb∉T.aw
 low:∀b∈T.aw,base<=b
 tlow:base<=tb
 blow:base<=w.heap.size
 root:∀p,dt p->gK T p
def bV.old{w w':World}{base tb n:Nat}{T:Tr}(h:bV w base tb T n)(k:Kp ae w w'):bV w' base tb T n:=
 ⟨h.blk.kp k (λx=>x),h.mem.old k,h.wf,h.nd,h.out,h.low,h.tlow,Hy h.blow k.size,h.root⟩
def bV.laid{c w':World}{base tb n n' x fb:Nat}{T:Tr}{p:Px}(h:bV c base tb T n)(hp:dt p)(ha:T.at_ p=none)(l:c.heap.size+1<=fb)(d:ag w' tb [T.ptr,.int .i64 n'] r_)(hm:cy w' (T.lay c.heap.size p x fb))(m:c.heap.size<=w'.heap.size):bV w' base tb (T.put c.heap.size p x fb) n':=by
 have e:T.put c.heap.size p x fb=T.lay c.heap.size p x fb:=by unfold Tr.put;rw[ha]
 rw[e];have j:p∉T.bq:=λhm=>by
  obtain⟨b,u,y,a,_⟩:=Tr.hR h.wf hm;rw[ha]at a;cases a
 have g:=h.mem.lt;have o:=h.blk.lt;obtain⟨F,hF,f⟩:=Tr.qy T p c.heap.size x fb;have i:∀b,b∈(T.lay c.heap.size p x fb).aw->b=fb\/b=c.heap.size\/b∈T.aw:=λb d=>by
  have:=f.mem_iff.1 d;rw[Hu,Ho]at this
  rcases this with a|a|a
  ·left;rcases hF with rfl|rfl
   ·cases a
   ·simpa using a
  ·exact .inr (.inl a)
  ·exact .inr (.inr a)
 refine⟨by rw[q2 (h.root p hp)];exact d,hm,Tr.ot h.wf hp j _ _ _,?_,?_,?_,h.tlow,Hy h.blow m,λq r=>by rw[nQ (h.root p hp)];exact h.root q r⟩
 ·rw[f.nodup_iff];have a:(c.heap.size::T.aw).Nodup:=H6.2 ⟨λd=>Jt _ (g _ d),h.nd⟩;rcases hF with rfl|rfl
  ·exact a
  ·refine H6.2 ⟨λd=> ?_,a⟩;rcases Ho.1 d with k|k
   ·omega
   ·have:=g _ k;omega
 ·intro d;rcases i _ d with a|a|a
  ·omega
  ·omega
  ·exact h.out a
 ·intro b d;have:=h.blow;rcases i _ d with a|a|a
  ·omega
  ·omega
  ·exact h.low b a
def bV.dR{a w':World}{base tb n n' x nb fb b y:Nat}{T:Tr}{p:Px}(h:bV a base tb T n)(ha:T.at_ p=some (b,false,y))(c:ag w' tb [T.ptr,.int .i64 n'] r_)(hm:cy w' (T.dR p x))(d:a.heap.size<=w'.heap.size):bV w' base tb (T.put nb p x fb) n':=by
 have e:T.put nb p x fb=T.dR p x:=by unfold Tr.put;rw[ha]
 rw[e];exact⟨by rw[Tr.iV];exact c,hm,Tr.oo h.wf _ _,by rw[Tr.hC];exact h.nd,by rw[Tr.hC];exact h.out,by rw[Tr.hC];exact h.low,h.tlow,Hy h.blow d,λq f=>by rw[nR];exact h.root q f⟩
def bV.count{w:World}{base tb n:Nat}{T:Tr}(h:bV w base tb T n):bV (w.setCell ⟨tb,1,none⟩ (.int .i64 ((n:Int)+1))) base tb T (n+1):=by
 have a:Kp (λi=>i=tb) w (w.setCell ⟨tb,1,none⟩ (.int .i64 ((n:Int)+1))):=(Kp.refl (λi=>i=tb) w).set (p:=⟨tb,1,none⟩) (.inl rfl) _;exact⟨h.blk.set 1 _,h.mem.kp a (λb c e=>h.out (e▸c)),h.wf,h.nd,h.out,h.low,h.tlow,Hy h.blow a.size,h.root⟩
def nX(T:Tr)(p:Px):Int:=match T.at_ p with|some (_,true,_)=>8|_=>0
def wo(w:World)(base tb n x:Nat)(T:Tr)(h:bV w base tb T n)(p:Px)(hp:dt p)(hn:n<4096):
    Calls Tryz.prog 40 #[.pointer (some ⟨tb,0,none⟩),.agg #[.int .u32 p.1,.int .i64 p.2],.int .i64 x] w λe w'=>∃c nb fb n',e=.returned (.int .i64 c)/\c=nX T p/\n'<=n+1/\bV w' base tb (T.put nb p x fb) n'/\Kp (λb=>base<=b) w w':=by
 have a:=(Kp.refl ae w).alloc (.cells #[.int .u32 p.1,.int .i64 p.2] 72);have C:ag (w.alloc (.cells #[.int .u32 p.1,.int .i64 p.2] 72)) w.heap.size [.int .u32 p.1,.int .i64 p.2] 72:=ag.new w [.int .u32 p.1,.int .i64 p.2] _;have al:=(a8.1 hp.1).1;have Q:=aa (λW=>hr p.1 p.2 W hp.2 (by omega));rw[show bs p.1 p.2=true from hp.1]at Q
 have H1:=aa (h.old a);have HF:=aa (r3 (w.alloc (.cells #[.int .u32 p.1,.int .i64 p.2] 72)) tb T n (h.old a).blk (h.old a).mem h.wf p hp);obtain⟨q,S⟩:∃q,T.ptr=.pointer (some ⟨q,0,none⟩):=by
  have:=h.root p hp;cases T with
  |nil=>exact this.elim
  |node kb kp ku kx kl kr=>exact⟨kb,rfl⟩
 have c0:=(h.old a).blk.ai;rw[S]at c0
 have z:=C.ai;have A:=C.aj;have R:=aa h;have U:=aa C;have af:=aa S;clear h a C S;rcases ha:T.at_ p with _|⟨b,u,y⟩
 ·rw[q3 ha]at HF
  have B:=aa ha;clear ha;go_enter Tryz.func40,Tryz.ntmps40
  go_wp2_with(first
   |(go_at_call 64;refine HF.out.mono ?_;rintro e w1 ⟨rfl,a⟩
     have o:=aa (H1.out.old a);have H:=aa (U.out.kp a (λx=>x));have c0:=a.cell c0 (λx=>x);have z:=a.cell z (λx=>x);have A:=a.cell A (λx=>x)
     have s:=aa a;clear a)
   |(go_at_call 39;refine(Q.out _).mono ?_;rintro e g ⟨rfl,f⟩
     have d:=aa (o.out.old f);have V:=aa (H.out.kp f (λx=>x));have c0:=f.cell c0 (λx=>x);have z:=f.cell z (λx=>x);have A:=f.cell A (λx=>x);have c1:=d.out.blk.aj
     have t:=aa f;clear f))
  have F:=d.out.root p hp;have M:p∉T.bq:=λhm=>by
   obtain⟨b,u,y,h1,_⟩:=Tr.hR d.out.wf hm;rw[B.out]at h1;cases h1
  have ah:=aa (λW (k:Kp ae g W) (I:ag W g.heap.size (bM p true x .nil .nil) dY)=>vi T W g.heap.size p x F (d.out.mem.old k) d.out.wf d.out.nd I (λI=>Jt _ (d.out.mem.lt _ I)) hp M);rw[af.out]at ah
  have an:tb≠g.heap.size:=IW d.out.blk.lt;clear M F;go_region_held3 (λw'=>w'.cell? ⟨tb,0,none⟩=some (.pointer (some ⟨q,0,none⟩))/\w'.cell? ⟨w.heap.size,0,none⟩=some (.int .u32 p.1)/\w'.cell? ⟨w.heap.size,1,none⟩=some (.int .i64 p.2)) (go_keep)
   ((go_at_call 65
     refine(ah.out _ ((Kp.refl ae g).alloc _).drew (ag.new g (bM p true x .nil .nil) dY).drew).mono ?_;rintro e w5 ⟨rfl,fb,N,O,P⟩;have j:Kp (λb=>b∈T.aw) g w5:=(((Kp.refl (λb=>b∈T.aw) g).alloc _).drew).then P (λi hi e=>e.elim (λh=>h) (λe=>absurd e (IW hi)));have v:=d.out.blk.kp j d.out.out;have e0:=v.cell 0 (show some T.ptr=_ by rw[af.out]);have e1:=v.aj;have y1:=v.fz 1;have J:=V.out.kp j (λI=>Jt _ (R.out.mem.lt _ I));have e2:=J.ai;have e3:=J.aj;clear J
     have X:=aa O;have G:=aa j;have Y:=aa N;have Z:=aa v;clear O j N v P))
  have hw:IntKind.i64.wrap ((n:Int)+1)=(n:Int)+1:=by rw[H3];omega
  go_wp2_with fail;go_ret;have hf:g.heap.size+1<=fb:=by have:=Y.out;rwa [show(g.alloc (.cells (bM p true x .nil .nil).toArray dY)).drew.heap.size=g.heap.size+1 from HB _ _]at this
  have hM:=d.out.laid (n':=n) hp B.out hf Z.out X.out G.out.size;refine⟨0,g.heap.size,fb,n+1,rfl,by unfold nX;rw[B.out],Hm _,hM.count,?_⟩;have ac:Kp ae w g:=(((Kp.refl ae w).alloc _).trans s.out).trans t.out;exact((ac.mono (T:=λb=>base<=b) (λ_ _ x=>x.elim)).trans (G.out.mono (λi _ hi=>d.out.low i hi))).set (p:=⟨tb,1,none⟩) (.inl d.out.tlow) _
 ·have D:=cy.at_ R.out.mem ha;obtain⟨l,r,D⟩:=D;have ak:=aa D;rw[q4 ha]at HF
  have B:=aa ha;have K:=Tr.at_mem ha;have ao:=R.out.mem.lt b K;have ad:b≠tb:=λe=>R.out.out (e▸K);clear D ha K;cases u with
  |true=>
   go_enter Tryz.func40,Tryz.ntmps40
   go_wp2_with(first
    |(go_at_call 64;refine HF.out.mono ?_;rintro e w1 ⟨rfl,a⟩
      have o:=aa (H1.out.old a);have H:=aa (U.out.kp a (λx=>x));have z:=a.cell z (λx=>x);have A:=a.cell A (λx=>x);have L:=aa ((ak.out.alloc (.cells #[.int .u32 p.1,.int .i64 p.2] 72)).kp a (λx=>x))
      have s:=aa (((Kp.refl ae w).alloc _).trans a);clear a c0)
    |(go_at_call 39;refine(Q.out _).mono ?_;rintro e g ⟨rfl,f⟩
      have d:=aa (o.out.old f);have m:=aa (L.out.kp f (λx=>x));have n1:=m.out.aq
      have t:=aa (s.out.trans f);clear f z A))
   go_ret;have e:T.put 0 p x 0=T:=by unfold Tr.put;rw[B.out]
   exact⟨8,0,0,n,rfl,by unfold nX;rw[B.out],by omega,by rw[e];exact d.out,t.out.mono (λ_ _ x=>x.elim)⟩
  |false=>
   go_enter Tryz.func40,Tryz.ntmps40;have hw:IntKind.i64.wrap ((n:Int)+1)=(n:Int)+1:=by rw[H3];omega
   go_wp2_with(first
    |(go_at_call 64;refine HF.out.mono ?_;rintro e w1 ⟨rfl,a⟩
      have o:=aa (H1.out.old a);have H:=aa (U.out.kp a (λx=>x));have z:=a.cell z (λx=>x);have A:=a.cell A (λx=>x);have L:=aa ((ak.out.alloc (.cells #[.int .u32 p.1,.int .i64 p.2] 72)).kp a (λx=>x))
      have s:=aa (((Kp.refl ae w).alloc _).trans a);clear a c0)
    |(go_at_call 39;refine(Q.out _).mono ?_;rintro e g ⟨rfl,f⟩
      have d:=aa (o.out.old f);have m:=aa (L.out.kp f (λx=>x));have n1:=m.out.aq;have n2:=m.out.aK;have z1:=m.out.fz 2;have z2:=m.out.fz 3;have c1:=d.out.blk.aj;have y1:=d.out.blk.fz 1
      have t:=aa (s.out.trans f);clear f z A))
   go_ret;have E:Kp (λi=>i=b) g ((g.setCell ⟨b,2,none⟩ (.bool true)).setCell ⟨b,3,none⟩ (.int .i64 x)):=((Kp.refl (λi=>i=b) g).set (p:=⟨b,2,none⟩) (.inl rfl) _).set (p:=⟨b,3,none⟩) (.inl rfl) _;have hM:=d.out.dR (nb:=0) (fb:=0) (x:=x) B.out (d.out.blk.kp E (λe=>ad e.symm)) (pG d.out.mem d.out.nd B.out E (λcs I=>(I.set 2 _).set 3 _)) E.size;refine⟨0,0,0,n+1,rfl,by unfold nX;rw[B.out],Hm _,hM.count,?_⟩;exact((t.out.mono (T:=λb=>base<=b) (λ_ _ x=>x.elim)).trans (E.mono (λi _ hi=>by subst hi;exact d.out.low _ (Tr.at_mem B.out)))).set (p:=⟨tb,1,none⟩) (.inl d.out.tlow) _
def wq(w:World):Calls Tryz.prog 38 #[] w λe w'=>∃tb T,e=.returned (.pointer (some ⟨tb,0,none⟩))/\bV w' w.heap.size tb T 0/\Kp ae w w'/\∃b,T=.node b (0,0) false 0 .nil .nil:=by
 go_enter Tryz.func38,Tryz.ntmps38;go_wp2;go_ret;have c:ag (w.alloc (.cells (bM (0,0) false 0 .nil .nil).toArray dY)) w.heap.size (bM (0,0) false 0 .nil .nil) dY:=ag.new w (bM (0,0) false 0 .nil .nil) dY;have a:=ag.new (w.alloc (.cells (bM (0,0) false 0 .nil .nil).toArray dY)) [.pointer (some ⟨w.heap.size,0,none⟩),.int .i64 ((0:Nat):Int)] r_;rw[HB]at a
 refine⟨w.heap.size+1,.node w.heap.size (0,0) false 0 .nil .nil,rfl,?_,((Kp.refl ae w).alloc _).alloc _,w.heap.size,rfl⟩;refine⟨a,⟨c.alloc _,trivial,trivial⟩,(cU.start [] w.heap.size).wf,by simp[Tr.aw],by simp[Tr.aw],by simp[Tr.aw],by omega,?_,λp hp=>q1 hp⟩;rw[HB,HB];omega
end ti
section
open Go Go.RowKit Go.Shelf
abbrev Rt:=Px×Nat
def ra(r:Rt):List Value:=[.int .u32 r.1.1,.int .i64 r.1.2,.int .i64 r.2]
inductive cr:List Rt->Tr->Prop
 |nil (b:Nat):cr [] (.node b (0,0) false 0 .nil .nil)
 |snoc (l:List Rt) (T:Tr) (r:Rt) (nb fb:Nat):cr l T->cr (l++[r]) (T.put nb r.1 r.2 fb)
structure Ev (l:List Rt) (n:Nat):Prop where
 ok:∀r∈l,dt r.1/\r.2<n
 new:∀k T,(h:k<l.length)->cr (l.take k) T->ti.nX T l[k].1=0
 len:l.length<=4096
structure bX where
 a:Nat
 b:Int
 x:Int
def fw(r:bX):List Value:=[.int .u32 r.a,.int .i64 r.b,.int .i64 r.x]
def ni(r:bX):(fw r).length=3:=rfl
structure bX.Ok (r:bX):Prop where
 a:r.a<4294967296
 b: -9223372036854775808<=r.b/\r.b<=9223372036854775807
 x: -9223372036854775808<=r.x/\r.x<=9223372036854775807
def bX.px(r:bX):Px:=(r.a,r.b.toNat)
def bX.rt(r:bX):Rt:=(r.px,r.x.toNat)
def c9(n:Nat)(r:bX):Bool:=bs r.a r.b&&decide (0<=r.x)&&decide (r.x<n)
def fx(n:Nat):List Px->List bX->Int
 |_,[]=>0
 |a,r::l=>if c9 n r=false then 6 else if r.px∈a then 30 else fx n (r.px::a) l
def kk{n:Nat}{r:bX}(h:c9 n r=true):bs r.a r.b=true/\0<=r.b/\r.b<=32/\0<=r.x/\r.x<n:=by
 simp only[c9,HS,HI]at h;have c:=h.1.1;simp only[bs,HS,HI]at c;exact⟨h.1.1,c.1.1,c.1.2,h.1.2,h.2⟩
def mB{n:Nat}{r:bX}(h:c9 n r=true)(c:r.Ok):dt r.px:=by
 obtain⟨d,e,f,_⟩:=kk h;refine⟨?_,c.a⟩;show bs r.a ((r.b.toNat:Nat):Int)=true;rw[show((r.b.toNat:Nat):Int)=r.b by omega];exact d
def jD{l:List Rt}{T:Tr}(h:cr l T):(∀r∈l,dt r.1)->(l.map (·.1)).Nodup->T.WF/\(∀e,e∈T.br↔e∈l):=by
 induction h with
 |nil b=>exact λ_ _=>⟨⟨⟨by decide,by decide⟩,λ_ h=>by simp[Tr.bq]at h,λ_ h=>by simp[Tr.bq]at h,trivial,trivial⟩,λe=>by simp[Tr.br]⟩
 |snoc l T r nb fb h j=>
  intro c a;have d:∀r∈l,dt r.1:=λr k=>c r (IF _ k);rw[HE,Ib]at a
  obtain⟨a,-,f⟩:=a;obtain⟨hw,he⟩:=j d a;have i:=c r (by simp);have g:∀y,(r.1,y)∉T.br:=λy hy=>by
   have:=(he _).1 hy;exact f r.1 (Hw.2 ⟨_,this,rfl⟩) r.1 (by simp) rfl
  unfold Tr.put;by_cases hm:r.1∈T.bq
  ·obtain⟨b,u,x,m,p,n,o⟩:=Tr.hR hw hm;rw[m];cases u with
   |true=>exact absurd (n rfl) (g x)
   |false=>exact⟨Tr.oo hw _ _,λe=>by rw[(Tr.qw hw hm (o rfl) _).mem_iff,Ho,he,Hu,H0,or_comm]⟩
  ·rw[Tr.oO hm];exact⟨Tr.ot hw i hm _ _ _,λe=>by rw[(Tr.qx _ _ _ _ _).mem_iff,Ho,he,Hu,H0,or_comm]⟩
def tQ{l:List Rt}{T:Tr}(h:cr l T)(a:∀r∈l,dt r.1)(c:(l.map (·.1)).Nodup)(p:Px):ti.nX T p=if p∈l.map (·.1)then 8 else 0:=by
 obtain⟨hw,he⟩:=jD h a c;unfold ti.nX;by_cases hm:p∈T.bq
 ·obtain⟨b,u,x,i,m,j,k⟩:=Tr.hR hw hm;rw[i];cases u with
  |true=>rw[Hl (Hw.2 ⟨_,(he _).1 (j rfl),rfl⟩)]
  |false=>
   rw[Hk];intro d;obtain⟨e,f,g⟩:=Hw.1 d;subst g;exact k rfl e.2 ((he _).2 f)
 ·rw[Tr.oO hm,Hk];intro d;obtain⟨e,f,g⟩:=Hw.1 d;subst g;exact hm (Tr.dg ((he _).2 f))
structure gl (n:Nat) (l:List bX) (j:Nat) (S:List Px):Prop where
 eq:fx n [] l=fx n S (l.drop j)
 mem:∀p,p∈S↔p∈((l.take j).map bX.rt).map (·.1)
 fF:∀r∈l.take j,c9 n r=true
 nd:(((l.take j).map bX.rt).map (·.1)).Nodup
def gl.start(n:Nat)(l:List bX):gl n l 0 []:=⟨rfl,λp=>by simp,λr h=>by simp at h,by simp⟩
def gl.bad{n:Nat}{l:List bX}{j:Nat}{S:List Px}(h:gl n l j S)(a:j<l.length)(b:c9 n l[j]=false):fx n [] l=6:=by
 rw[h.eq,Ii a];unfold fx;rw[Hl b]
def gl.o4{n:Nat}{l:List bX}{j:Nat}{S:List Px}(h:gl n l j S)(a:j<l.length)(b:c9 n l[j]=true)(hm:l[j].px∈((l.take j).map bX.rt).map (·.1)):fx n [] l=30:=by
 rw[h.eq,Ii a];unfold fx;rw[Hk (by rw[b];decide),Hl ((h.mem _).2 hm)]
def gl.more{n:Nat}{l:List bX}{j:Nat}{S:List Px}(h:gl n l j S)(f:j<l.length)(g:c9 n l[j]=true)(hm:l[j].px∉((l.take j).map bX.rt).map (·.1)):gl n l (j+1) (l[j].px::S):=by
 have e:l.take (j+1)=l.take j++[l[j]]:=HQ f;refine⟨?_,λp=> ?_,λr d=> ?_,?_⟩
 ·rw[h.eq,Ii f]
  conv=>lhs;unfold fx
  rw[Hk (by rw[g];decide),Hk (λi=>hm ((h.mem _).1 i))]
 ·rw[e,HE,HE,Hu,Ho,h.mem];simp only[HA,Ik,H0,bX.rt];rw[or_comm]
 ·rw[e,Hu,H0]at d
  rcases d with d|rfl
  ·exact h.fF r d
  ·exact g
 ·rw[e,HE,HE,Ib];refine⟨h.nd,by simp,λa ha b c=> ?_⟩;simp only[HA,Ik,H0,bX.rt]at c;subst c;rintro rfl;exact hm ha
def gl.dt{n:Nat}{l:List bX}{j:Nat}{S:List Px}(h:gl n l j S)(b:∀r∈l,r.Ok):∀r∈(l.take j).map bX.rt,dt r.1:=λr c=>by
 obtain⟨g,a,rfl⟩:=Hw.1 c;exact mB (h.fF g a) (b g (List.mem_of_mem_take a))
def gl.full{n:Nat}{l:List bX}{S:List Px}(h:gl n l l.length S):fx n [] l=0:=by
 rw[h.eq,List.drop_length];rfl
structure re (n:Nat) (l:List bX):Prop where
 fF:∀r∈l,c9 n r=true
 nd:((l.map bX.rt).map (·.1)).Nodup
def gl.g{n:Nat}{l:List bX}{S:List Px}(h:gl n l l.length S):re n l:=by
 have a:=h.fF;have b:=h.nd;rw[H9]at a b
 exact⟨a,b⟩
structure Ew (w wr:World) (np:Nat) (l:List bX) (tb n j:Nat) (T:Tr):Prop where
 tab:ti.bV wr (w.heap.size+1) tb T n
 z6:cr ((l.take j).map bX.rt) T
 kp:Kp ae w wr
 hN:n<=j
 is:∃S,gl np l j S
def tR(l:List bX)(d:Nat)(room batch:Int)(ho:∀r∈l,r.Ok)(hlen:l.length<=4096)(ap:Option Addr)(cp:Nat)(rv:Value)(w:World)(h:Sl w rv l.length 3 (l.flatMap fw)):
    Calls Tryz.prog 21 #[.agg #[.slice ap d cp,rv,.int .i64 room,.int .i64 batch]] w λe w'=>(fx d [] l≠0/\e=.returned (.tuple #[.pointer none,.int .i64 (fx d [] l)])\/fx d [] l=0/\re d l/\∃tb T n,e=.returned (.tuple #[.pointer (some ⟨tb,0,none⟩),.int .i64 0])/\ti.bV w' w.heap.size tb T n/\cr (l.map bX.rt) T)/\Kp ae w w':=by
 obtain⟨ao,cap,rfl⟩:∃ao cap,rv=.slice ao l.length cap:=by obtain⟨ao,cap,rfl,_⟩:=h.is;exact⟨_,_,rfl⟩
 have aN:=aa h;have aJ:=aa ho;have ad:=aa (λW=>ti.wq W);have af:=aa (ag.new w [.slice ap d cp,.slice ao l.length cap,.int .i64 room,.int .i64 batch] 36);have ah:=aa ((Kp.refl ae w).alloc (.cells #[.slice ap d cp,.slice ao l.length cap,.int .i64 room,.int .i64 batch] 36));obtain⟨E,hE⟩:∃E,fx d [] l=E:=⟨_,rfl⟩
 rw[hE];have aB:=aa hE;refine al ?_;intro PP ac;clear h ho hE;go_enter Tryz.func21,Tryz.ntmps21;go_wp2_with fail;refine(ad.out _).mono ?_;rintro e w1 ⟨tb,T,rfl,hT,P,b1,ak⟩;have Q:=aa (af.out.kp P (λx=>x));have an:Hid (Ew w w1 d l tb 0 0 T):=aa ⟨by rw[HB]at hT;exact hT,by rw[ak,Je];exact cr.nil b1,ah.out.trans P,Hm _,[],gl.start d l⟩;have d1:=Q.out.aj;clear hT P ak af ah ad;go_wp2_with fail;go_loopw [12] (λi0 wr=>∃(j n:Nat) (T:Tr),i0=.int .i64 j/\j<=l.length/\Hid (Ew w wr d l tb n j T)/\Hid (ag wr w.heap.size [.slice ap d cp,.slice ao l.length cap,.int .i64 room,.int .i64 batch] 36)) (λi0 _=>l.length-(intOf i0).toNat)
 case atStart=>exact⟨0,0,T,rfl,Hv _,an,Q⟩
 case round=>
  clear an Q d1;obtain⟨j,n,T1,rfl,hj,m,aC⟩:=hrel;obtain⟨N,aD⟩:∃N:World,N=wr:=⟨_,rfl⟩
  subst aD;by_cases v:j<l.length
  ·obtain⟨g,off,aK,e1,hc⟩:=(aN.out.old m.out.kp).at ni (by decide) j v;injection e1 with e1 _ e3;subst e1 e3;have aO:(j:Int)<l.length:=by omega
   obtain⟨S,f⟩:=m.out.is;obtain⟨r,o⟩:∃r,l[j]=r:=⟨_,rfl⟩
   have ar:=aJ.out r (by rw[<-o];exact Ht v);have z:Hid (c9 d r=false->E=6):=aa (λR=>aB.out.symm.trans (f.bad v (by rw[o];exact R)));have G:Hid (c9 d r=true->r.px∈((l.take j).map bX.rt).map (·.1)->E=30):=aa (λR hm=>aB.out.symm.trans (f.o4 v (by rw[o];exact R) (by rw[o];exact hm)));have H:Hid (c9 d r=true->r.px∉((l.take j).map bX.rt).map (·.1)->∃S,gl d l (j+1) S):=aa (λR hm=>⟨_,f.more v (by rw[o];exact R) (by rw[o];exact hm)⟩);have y:Hid (ti.nX T1 r.px=if r.px∈((l.take j).map bX.rt).map (·.1)then 8 else 0):=aa (tQ m.out.z6 (f.dt aJ.out) f.nd _);have A:Hid ((l.take (j+1)).map bX.rt=(l.take j).map bX.rt++[r.rt]):=aa (by rw[HQ v,o,HE];rfl);rw[o]at hc
   have I:=aa ar;obtain⟨seen,B⟩:∃seen,((l.take j).map bX.rt).map (·.1)=seen:=⟨_,rfl⟩
   rw[B]at G H y
   clear f o B ar;obtain⟨a,b,x⟩:=r;have au:a<4294967296:=I.out.a;have O:=I.out.b;have c0:N.cell? ⟨g,off+j*3,none⟩=some (.int .u32 a):=hc 0 _ rfl;have c1:N.cell? ⟨g,off+j*3+1,none⟩=some (.int .i64 b):=hc 1 _ rfl;have c2:N.cell? ⟨g,off+j*3+2,none⟩=some (.int .i64 x):=hc 2 _ rfl;have aE:=aa (λW=>hr a b W au O);have hd:=(aC.out.alloc (.cells #[.int .u32 a,.int .i64 b,.int .i64 x] 92))
   have aL:=aa (ag.new N [.int .u32 a,.int .i64 b,.int .i64 x] 92);have aM:=aa ((Kp.refl ae N).alloc (.cells #[.int .u32 a,.int .i64 b,.int .i64 x] 92));have av:=aa hd;clear hc hd aC O;obtain⟨rg,U⟩:∃rg,bs a b=rg:=⟨_,rfl⟩
   rw[U]at aE
   have J:=aa U;clear U;go_wp2_with fail;refine(aE.out _).mono ?_;rintro e w2 ⟨rfl,K⟩;have C:=aa (aL.out.kp K (λx=>x));have L:=aa (av.out.kp K (λx=>x));have D:=aa (aM.out.trans K);have b0:=C.out.ai;have b1:=C.out.aj;have b2:=C.out.aq;have d0:=L.out.ai;clear K aL aM av c0 c1 c2 aE;by_cases p:c9 d ⟨a,b,x⟩=true
   case neg=>
    have h6:=z.out (by revert p;cases c9 d ⟨a,b,x⟩<;>simp);have V:Hid (∀W,Kp ae N W->PP (.returned (.tuple #[.pointer none,.int .i64 6])) W):=aa (λW k=>ac.out _ _ ⟨.inl ⟨by rw[h6];decide,by rw[h6]⟩,m.out.kp.trans k⟩);have aF:rg=false\/rg=true/\x<0\/rg=true/\¬x<0/\(d:Int)<=x:=by
     cases aP:rg with
     |false=>exact .inl rfl
     |true=>
      by_cases h0:x<0
      ·exact .inr (.inl ⟨rfl,h0⟩)
      ·refine .inr (.inr ⟨rfl,h0,?_⟩);by_cases h1:(d:Int)<=x
       ·exact h1
       ·exfalso;apply p;simp only[c9,J.out,aP,J2,HS,HI];omega
    clear z G H y A J p h6 ac;rcases aF with rfl|⟨rfl,h1⟩|⟨rfl,h1,h2⟩;all_goals
     go_wp2_with fail;exact V.out _ D.out
   obtain⟨h1,h2,h3,h4,h5⟩:=kk p;have aw:rg=true:=by rw[<-J.out];exact h1
   subst aw;have q:Hid (dt (bX.px ⟨a,b,x⟩)):=aa (mB p I.out);have s:=aa (G.out p);have t:=aa (H.out p);obtain⟨b,rfl⟩:∃b':Nat,b=b':=⟨b.toNat,by simp only at h2;omega⟩
   obtain⟨x,rfl⟩:∃x':Nat,x=x':=⟨x.toNat,by simp only at h4;omega⟩
   have ax:Hid (bX.rt ⟨a,b,x⟩=((a,b),x)):=aa rfl;have ay:Hid (bX.px ⟨a,b,x⟩=(a,b)):=aa rfl;rw[ax.out]at A
   rw[ay.out]at y q s t
   have aQ:¬(x:Int)<0:=by omega
   have aR:¬(d:Int)<=x:=by simp only at h5;omega
   clear z G H I J ax ay h1 h2 h3 h4 h5 p;go_wp2_with fail;have X:ti.bV w2 (w.heap.size+1) tb T1 n:=m.out.tab.old D.out;refine(ti.wo w2 (w.heap.size+1) tb n x T1 X (a,b) q.out (by have:=m.out.hN;omega)).mono ?_;rintro e w3 ⟨c,nb,fb,n',rfl,F,az,Y,M⟩;rw[y.out]at F
   have u:Kp ae w w3:=(m.out.kp.trans D.out).then M (λi hi e=>by omega);by_cases hm:(a,b)∈seen
   ·rw[Hl hm]at F
    subst F;have Z:=s.out hm;have V:Hid (PP (.returned (.tuple #[.pointer none,.int .i64 30])) w3):=aa (ac.out _ _ ⟨.inl ⟨by rw[Z];decide,by rw[Z]⟩,u⟩);clear Y M u X m L C D b0 b1 b2 d0 y q A az s t hm Z ac;go_wp2_with fail;exact V.out
   ·rw[Hk hm]at F
    subst F;have aG:=aa (L.out.kp M (λe=>by omega));have aH:Hid (Ew w w3 d l tb n' (j+1) (T1.put nb (a,b) x fb)):=aa ⟨Y,by rw[A.out];exact cr.snoc _ _ _ nb fb m.out.z6,u,by have:=m.out.hN;omega,t.out hm⟩;clear Y M u X m L C D b0 b1 b2 d0 y q A az s t hm;go_wp2_with fail;go_roundw
    case rel=>exact⟨j+1,n',_,by go_num,by omega,aH,aG⟩
    case measure=>simp[intOf];omega
  ·have aI:j=l.length:=by omega
   subst aI;obtain⟨S,f⟩:=m.out.is;have h0:E=0:=aB.out.symm.trans f.full;have aA:=aa (ac.out _ _ ⟨.inr ⟨h0,f.g,tb,T1,n,rfl,{m.out.tab with low:=λb R=>by have:=m.out.tab.low b R;omega,tlow:=by have:=m.out.tab.tlow;omega,blow:=by have:=m.out.tab.blow;omega},by have:=m.out.z6;rw[H9]at this;exact this⟩,m.out.kp⟩);clear m aC ac f h0 aB;go_wp2_with fail;exact aA.out
end
end Go.Proofs.YtincjochpkdnfaaGreatDoor
