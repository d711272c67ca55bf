/- The trie of layer 32 in memory; which kid; looked up by an address. -/
import Derived.Test.YtincjochpkdnfaaGreatDoorV6
import Derived.Test.YtincjochpkdnfaaGreatDoorV9
import Derived.Test.YtincjochpkdnfaaGreatDoorV10
import Derived.Shelf.Spec.TrailingZeros
import Derived.Sort.WalkA14
set_option linter.all false
set_option maxHeartbeats 8000000
set_option maxRecDepth 100000
namespace Go.Proofs.YtincjochpkdnfaaGreatDoor
section
open Go.RowKit
def Tr.ptr:Tr->Value
 | .nil=>.pointer none
 | .node b _ _ _ _ _=>.pointer (some ⟨b,0,none⟩)
def bM(p:Px)(u:Bool)(x:Nat)(l r:Tr):List Value:=[.int .u32 p.1,.int .i64 p.2,.bool u,.int .u64 x,l.ptr,r.ptr]
def cy(w:World):Tr->Prop
 | .nil=>True
 | .node b p u x l r=>ag w b (bM p u x l r) 285/\cy w l/\cy w r
def cy.kp{S:Nat->Prop}{w w':World}{t:Tr}(h:cy w t)(k:Kp S w w')(hS:∀b∈t.aw,¬S b):cy w' t:=by
 induction t with
 |nil=>trivial
 |node b p u x l r d e=>
  obtain⟨f,g,i⟩:=h;exact⟨f.kp k (hS b (by simp[Tr.aw])),d g (λa c=>hS a (by simp[Tr.aw,c])),e i (λa c=>hS a (by simp[Tr.aw,c]))⟩
def cy.old{w w':World}{t:Tr}(h:cy w t)(k:Kp ae w w'):cy w' t:=h.kp k (λ_ _ x=>x)
def ff(w:World)(b:Nat)(p:Px)(c:w.cell? ⟨b,1,none⟩=some (.int .i64 p.2))(g:p.2<=31)(a:Nat)(ha:a<4294967296):
    Calls Tryz.prog 145 #[.pointer (some ⟨b,0,none⟩),.int .u32 a] w λe w'=>e=.returned (.int .i64 (aZ p a:Nat))/\w=w':=by
 obtain⟨k,l⟩:∃k,31-p.2=k:=⟨_,rfl⟩
 have h:(31:Int)-(p.2:Int)=(k:Int):=by omega
 have m:aZ p a=a/2^k%2:=by unfold aZ;rw[l]
 rw[m];obtain⟨q,f⟩:∃q,a/2^k=q:=⟨_,rfl⟩
 rw[f];have i:q<4294967296:=by rw[<-f];exact IL (Nat.div_le_self _ _) ha
 have t:(a:Int)/2^k=(q:Int):=by rw[<-f];push_cast;rfl
 have o:k<=31:=by omega
 obtain⟨n,r⟩:∃n,p.2=n:=⟨_,rfl⟩
 rw[r]at c h
 obtain⟨s,d⟩:∃s,q%2=s:=⟨_,rfl⟩
 have u:s<=1:=by omega
 have j:bits .and .u32 (q:Int) 1=(s:Int):=by
  have:=bits_and_u32_nat q 1 i (by omega);rw[Kl,d]at this
  exact this
 rw[d];clear m l f r g d;go_enter Tryz.func145,Tryz.ntmps145;go_wp2;go_ret;exact⟨rfl,rfl⟩
def fu{P:Program}{f:Func}{s u v:Tmp}{ty:TypeId}(hf:f.results=#[.cell s ty,.tmp u,.tmp v]){R:Ending->World->Prop}{W:World}{g:Nat}{cs:List Value}{t:TypeId}{T:Array Value}(b:ag W g cs t)(d:TypeDesc)(hu:P.underlying ty=some d)(hd:(match d with| .struct _| .array _ _=>true|_=>false)=true)
    (hi:(P.info? ty).map (·.size)=some cs.length) (c:T.getD s undef=.pointer (some ⟨g,0,none⟩)) (e:R (.returned (.tuple #[.agg cs.toArray,T.getD u undef,T.getD v undef])) W):bodyPost P f R Exit.ret {tmps:=T,defers:=[]} W:=by
 refine HT (v:=.tuple #[.agg cs.toArray,T.getD u undef,T.getD v undef]) ?_ rfl e;have a:T[s]?.getD undef=.pointer (some ⟨g,0,none⟩):=by simpa using c
 simp[results,hf,a,asAddr,Jy W g t ty cs.toArray (0,0) d b.is hu hd (by rw[HY];exact hi)]
def bz(o:Option (Px×Nat)):Px:=match o with|none=>(0,0)|some e=>e.1
def dx(o:Option (Px×Nat)):Nat:=match o with|none=>0|some e=>e.2
def fv(o:Option (Px×Nat)):Bool:=match o with|none=>false|some _=>true
structure jv (w wr:World) (T t:Tr) (a:Nat) (acc:Option (Px×Nat)):Prop where
 mem:cy wr t
 wf:t.WF
 low:∀b∈t.aw,b<w.heap.size
 eq:t.az a acc=T.az a none
 pb:ag wr (w.heap.size+1) [.int .u32 (bz acc).1,.int .i64 (bz acc).2] 72
 rb:ag wr w.heap.size [.int .u32 0,.int .i64 0] 72
 kp:Kp ae w wr
def jv.old{w wr w':World}{T t:Tr}{a:Nat}{acc:Option (Px×Nat)}(h:jv w wr T t a acc)(k:Kp ae wr w'):jv w w' T t a acc:=
 ⟨h.mem.old k,h.wf,h.low,h.eq,h.pb.kp k (λx=>x),h.rb.kp k (λx=>x),h.kp.trans k⟩
def cy.lt{w:World}{t:Tr}(h:cy w t):∀b∈t.aw,b<w.heap.size:=by
 induction t with
 |nil=>intro b a;cases a
 |node b p u x l r d e=>
  obtain⟨f,g,i⟩:=h;intro c a;simp only[Tr.aw,Ho,Hu]at a;rcases a with rfl|a|a
  ·exact f.lt
  ·exact d g c a
  ·exact e i c a
def Tr.c6{b:Nat}{p:Px}{u:Bool}{x:Nat}{l r:Tr}{a:Nat}{acc:Option (Px×Nat)}(h:b3 p a=true):(Tr.node b p u x l r).az a acc=if aZ p a=0 then l.az a (match u with|true=>some (p,x)|false=>acc)else r.az a (match u with|true=>some (p,x)|false=>acc):=by
 conv=>lhs;unfold Tr.az
 rw[h];rfl
def Tr.gV{p:Px}{s:Nat}{t:Tr}(h:∀q∈t.bq,fI p s q)(hp:p.2=32):t=.nil:=by
 cases t with
 |nil=>rfl
 |node b q u x l r=>
  have:=h q (by simp[Tr.bq]);have a:=this.lt;have c:=(a8.1 (gS.1 this.rO).1).1;omega
def lE(w:World)(tb:Nat)(T:Tr)(n:Int)(hT:ag w tb [T.ptr,.int .i64 n] 287)(hM:cy w T)(hw:T.WF)(a:Nat)(ha:a<4294967296):
    Calls Tryz.prog 138 #[.pointer (some ⟨tb,0,none⟩),.int .u32 a] w λe w'=>e=.returned (.tuple #[.agg #[.int .u32 (bz (T.az a none)).1,.int .i64 (bz (T.az a none)).2],.int .u64 (dx (T.az a none)),.bool (fv (T.az a none))])/\Kp ae w w':=by
 have P:=((Kp.refl ae w).alloc (.cells #[.int .u32 0,.int .i64 0] 72)).alloc (.cells #[.int .u32 0,.int .i64 0] 72);have c0:=(hT.kp P (λx=>x)).ai;have au:Hid (jv w ((w.alloc (.cells #[.int .u32 0,.int .i64 0] 72)).alloc (.cells #[.int .u32 0,.int .i64 0] 72)) T T a none):=by
  refine⟨hM.old P,hw,hM.lt,rfl,?_,(ag.new w [.int .u32 0,.int .i64 0] _).alloc _,P⟩;have:=ag.new (w.alloc (.cells #[.int .u32 0,.int .i64 0] 72)) [.int .u32 0,.int .i64 0] 72;rw[HB]at this
  exact this
 obtain⟨tp,ad⟩:∃v,T.ptr=v:=⟨_,rfl⟩
 have aM:=aa ad;rw[ad]at c0
 obtain⟨R,hR⟩:∃R,T.az a none=R:=⟨_,rfl⟩
 have aJ:=aa hR;rw[hR];clear hT hM hw P ad hR;go_enter Tryz.func138,Tryz.ntmps138;go_wp2;clear c0;go_loopg [8,9,10] T.bq.length (λk s8 s9 aN wr=>∃(t:Tr) (acc:Option (Px×Nat)) (tp:Value),tp=aN/\s8=.int .u64 (dx acc)/\s9=.bool (fv acc)/\t.bq.length<=k/\Hid (t.ptr=tp/\jv w wr T t a acc))
 case atStart=>exact⟨T,none,_,rfl,rfl,rfl,Hm _,aM.out,au.out⟩
 case round=>
  clear au;obtain⟨t,acc,tp,rfl,rfl,rfl,hk,aL⟩:=hrel;cases t with
  |nil=>
   obtain⟨hp,hi⟩:=aL.out;obtain rfl:=hp;have HF:=aa hi;simp only[Tr.ptr];have p0:=HF.out.pb.ai;have p1:=HF.out.pb.aj;clear hi aL
   go_wp2_with(refine b0 rfl 72 (.tmp 4) (.tmp 56) rfl HF.out.rb [.int .u32 (bz acc).1,.int .i64 (bz acc).2] rfl rfl (by kernel_rfl) rfl (by simp[Value.oneCell']) ?_
               intro W2 m _ o
               have A:=aa m;have B:=aa (o _ _ HF.out.kp (.inr (Hm _)));clear m o)
   refine fu (by rfl) A.out _ Tryz.underlying72 rfl (by kernel_rfl) (by rfl) ?_;have he:=HF.out.eq;simp only[Tr.az]at he;refine⟨?_,B.out⟩;rw[<-aJ.out,<-he];rfl
  |node b p u x l r=>
   obtain⟨hp,hi⟩:=aL.out;obtain rfl:=hp;have HF:=aa hi;obtain⟨Y,av,ax⟩:=hi.mem;have n0:=Y.ai;have n1:=Y.aj;have n2:=Y.aq;have n3:=Y.aK;have n4:=Y.a_;have n5:=Y.bN;have Q:=hi.wf.1;have hH:=aa (λW=>yP p.1 a p.2 W Q.2 ha (by have:=(a8.1 Q.1).1;omega));simp only[Tr.ptr];have aP:=aa Y;have aQ:=aa av;have aA:=aa ax;clear hi aL Y av ax n4 n5;cases S:b3 p a with
   |false=>
    have C:=λW=>hH.out W;rw[show hasB p.1 p.2 a=false from S]at C
    have K:=aa C;obtain⟨g,hE⟩:∃x,x=acc:=⟨_,rfl⟩
    subst hE;have aB:Hid (g=T.az a none):=by
     show _=_;rw[<-HF.out.eq];unfold Tr.az;rw[S]
    clear C hH
    go_wp2_with(first
      |(go_at_call 49;refine(K.out _).mono ?_;rintro e w1 ⟨rfl,d⟩
        have Z:Hid (Kp ae w w1/\ag w1 w.heap.size [.int .u32 0,.int .i64 0] 72):=⟨(HF.out.old d).kp,(HF.out.old d).rb⟩
        have p0:=(HF.out.old d).pb.ai;have p1:=(HF.out.old d).pb.aj
        clear d)
      |(refine b0 rfl 72 (.tmp 4) (.tmp 56) rfl Z.out.2 [.int .u32 (bz g).1,.int .i64 (bz g).2] rfl rfl (by kernel_rfl) rfl (by simp[Value.oneCell']) ?_
        intro W2 m _ o
        have A:=aa m;have B:=aa (o _ _ Z.out.1 (.inr (Hm _)));clear m o))
    refine fu (by rfl) A.out _ Tryz.underlying72 rfl (by kernel_rfl) (by rfl) ?_;refine⟨?_,B.out⟩;rw[<-aJ.out,<-aB.out];rfl
   |true=>
    have C:=λW=>hH.out W;rw[show hasB p.1 p.2 a=true from S]at C
    have K:=aa C;clear C hH;cases u with
    |false=>
     by_cases D:p.2=32
     ·have s:((p.2:Int)==32)=true:=by rw[Iq];omega
      obtain⟨g,hE⟩:∃x,x=acc:=⟨_,rfl⟩
      subst hE;have E:=HF.out.wf;have aB:Hid (g=T.az a none):=by
       show _=_;rw[<-HF.out.eq,Tr.c6 S,Tr.gV E.2.1 D,Tr.gV E.2.2.1 D];simp only[Tr.az,ite_self]
      clear E D
      go_wp2_with(first
       |(go_at_call 49;refine(K.out _).mono ?_;rintro e w1 ⟨rfl,d⟩
         have Z:Hid (Kp ae w w1/\ag w1 w.heap.size [.int .u32 0,.int .i64 0] 72):=⟨(HF.out.old d).kp,(HF.out.old d).rb⟩
         have y:=aa (aP.out.kp d (λx=>x));have p0:=(HF.out.old d).pb.ai;have p1:=(HF.out.old d).pb.aj;have n1:=y.out.aj;have n2:=y.out.aq
         clear d n0 n3)
       |(refine b0 rfl 72 (.tmp 4) (.tmp 56) rfl Z.out.2 [.int .u32 (bz g).1,.int .i64 (bz g).2] rfl rfl (by kernel_rfl) rfl (by simp[Value.oneCell']) ?_
         intro W2 m _ o
         have A:=aa m;have B:=aa (o _ _ Z.out.1 (.inr (Hm _)));clear m o))
      refine fu (by rfl) A.out _ Tryz.underlying72 rfl (by kernel_rfl) (by rfl) ?_;refine⟨?_,B.out⟩;rw[<-aJ.out,<-aB.out];rfl
     ·have s:((p.2:Int)==32)=false:=by rw[HM];omega
      go_wp2_with(go_at_call 49;refine(K.out _).mono ?_;rintro e w1 ⟨rfl,d⟩
                  have U:=aa d;have i:Hid (Kp ae w w1/\ag w1 (w.heap.size+1) [.int .u32 (bz acc).1,.int .i64 (bz acc).2] 72/\ag w1 w.heap.size [.int .u32 0,.int .i64 0] 72/\Kp ae w w1):=⟨(HF.out.old d).kp,(HF.out.old d).pb,(HF.out.old d).rb,(HF.out.old d).kp⟩
                  have q:=aa (aP.out.kp d (λx=>x));have n1:=q.out.aj;have n2:=q.out.aq
                  clear d n0 n3)
      obtain⟨c,j⟩:∃z,z=acc:=⟨_,rfl⟩
      subst j
      rename World=>V
      have L:Hid (∀t:Tr,t.az a c=t.az a c):=λ_=>rfl;have af:=aa (aQ.out.old U.out);have ak:=aa (aA.out.old U.out);clear n1 n2 s;have GS:=aa (λW (k:Kp ae V W)=>aF (ff W b p ((q.out.kp k (λx=>x)).aj) (by have:=(a8.1 Q.1).1;omega) a ha));have q4:=q.out.a_;have q5:=q.out.bN;rcases bn p a with X|X
      ·rw[X]at GS
       refine ar 8 (by kernel_rfl) (λ_ _ _ _ _ h=>h) ?_;simp only[aO]
       repeat((first
          |refine ay (by rfl) (by as_aux_lemma=>intro W F;have e0:=F.cell q4 (λx=>x);go_simp;exact rfl) ?_
          |refine ah (by rfl) ?_
          |refine aR (by rfl) (by as_aux_lemma=>intro W;go_simp;exact⟨rfl,rfl⟩) (by intro W F;with_reducible first|exact GS.out W F) ?_);simp only[Act.put,aH])
       intro W5 f;have G:Hid (jv w W5 T l a c):=⟨af.out.old f,HF.out.wf.2.2.2.1,λM J=>HF.out.low M (by simp[Tr.aw,J]),by rw[<-HF.out.eq,Tr.c6 S,Hl X]<;>exact L.out l,i.out.2.1.kp f (λx=>x),i.out.2.2.1.kp f (λx=>x),i.out.2.2.2.trans f⟩
       have hlen:=hk;simp only[Tr.bq,Hs,HK]at hlen;clear f q4 q5 GS;go_wp2_with fail;go_roundg l.bq.length
       case measure=>omega
       case rel=>exact⟨l,c,_,rfl,by first|rfl|rw[N.out],by first|rfl|rw[O.out],Hm _,rfl,G.out⟩
      ·rw[X]at GS
       have al:¬aZ p a=0:=by omega
       refine ar 8 (by kernel_rfl) (λ_ _ _ _ _ h=>h) ?_;simp only[aO]
       repeat((first
          |refine ay (by rfl) (by as_aux_lemma=>intro W F;have e0:=F.cell q5 (λx=>x);go_simp;exact rfl) ?_
          |refine ah (by rfl) ?_
          |refine aR (by rfl) (by as_aux_lemma=>intro W;go_simp;exact⟨rfl,rfl⟩) (by intro W F;with_reducible first|exact GS.out W F) ?_);simp only[Act.put,aH])
       intro W5 f;have G:Hid (jv w W5 T r a c):=⟨ak.out.old f,HF.out.wf.2.2.2.2,λM J=>HF.out.low M (by simp[Tr.aw,J]),by rw[<-HF.out.eq,Tr.c6 S,Hk al]<;>exact L.out r,i.out.2.1.kp f (λx=>x),i.out.2.2.1.kp f (λx=>x),i.out.2.2.2.trans f⟩
       have hlen:=hk;simp only[Tr.bq,Hs,HK]at hlen;clear f q4 q5 GS;go_wp2_with fail;go_roundg r.bq.length
       case measure=>omega
       case rel=>exact⟨r,c,_,rfl,by first|rfl|rw[N.out],by first|rfl|rw[O.out],Hm _,rfl,G.out⟩
    |true=>
     have aS:b<w.heap.size:=HF.out.low b (by simp[Tr.aw]);have ac:=aa HF.out.low
     go_wp2_with(go_at_call 49;refine(K.out _).mono ?_;rintro e w1 ⟨rfl,d⟩
                 have H:=aa (HF.out.old d);have U:=aa d;have y:=aa (aP.out.kp d (λx=>x));clear n0 n1 n2 n3;have n0:=y.out.ai;have n1:=y.out.aj;have n2:=y.out.aq;have n3:=y.out.aK
                 clear d)
     have t0:=H.out.pb.ai;have t1:=H.out.pb.aj;have y0:=H.out.pb.fz 0;have y1:=H.out.pb.fz 1;go_region;have I:Kp (λb=>b=w.heap.size+1) w1 ((w1.setCell ⟨w.heap.size+1,0,none⟩ (.int .u32 p.1)).setCell ⟨w.heap.size+1,1,none⟩ (.int .i64 p.2)).drew:=(((Kp.refl (λb=>b=w.heap.size+1) w1).set (p:=⟨w.heap.size+1,0,none⟩) (.inl rfl) _).set (p:=⟨w.heap.size+1,1,none⟩) (.inl rfl) _).drew;have an:ag ((w1.setCell ⟨w.heap.size+1,0,none⟩ (.int .u32 p.1)).setCell ⟨w.heap.size+1,1,none⟩ (.int .i64 p.2)).drew (w.heap.size+1) [.int .u32 p.1,.int .i64 p.2] 72:=((H.out.pb.set 0 (.int .u32 p.1)).set 1 (.int .i64 p.2)).drew;obtain⟨V,aC⟩:∃W,((w1.setCell ⟨w.heap.size+1,0,none⟩ (.int .u32 p.1)).setCell ⟨w.heap.size+1,1,none⟩ (.int .i64 p.2)).drew=W:=⟨_,rfl⟩
     rw[aC]at I an ⊢
     clear aC t0 t1 y0 y1;obtain⟨c,j⟩:∃z,z=some (p,x):=⟨_,rfl⟩
     have aD:=aa j;have aE:dx c=x:=by rw[j];rfl
     have aG:fv c=true:=by rw[j];rfl
     have aI:bz c=p:=by rw[j];rfl
     have L:Hid (∀t:Tr,t.az a c=t.az a (some (p,x))):=λ_=>by rw[j]
     have i:Hid (Kp ae w V/\ag V (w.heap.size+1) [.int .u32 (bz c).1,.int .i64 (bz c).2] 72/\ag V w.heap.size [.int .u32 0,.int .i64 0] 72/\Kp ae w V):=by
      have k:=H.out.kp.then I (λb J e=>by omega);exact⟨k,by rw[aI];exact an,H.out.rb.kp I (by omega),k⟩
     have q:=aa (y.out.kp I (by omega));have ao:=(U.out.mono (T:=λb=>b=w.heap.size+1) (λ_ _ x=>x.elim)).trans I;have af:=aa (aQ.out.kp ao (λM J e=>by have:=ac.out M (by simp[Tr.aw,J]);omega));have ak:=aa (aA.out.kp ao (λM J e=>by have:=ac.out M (by simp[Tr.aw,J]);omega));have m1:=q.out.aj;have N:=aa aE;have O:=aa aG;clear an I ao j aE aG aI n0 n1 n2 n3;by_cases D:p.2=32
     ·have s:((p.2:Int)==32)=true:=by rw[Iq];omega
      obtain⟨g,hE⟩:∃x,x=c:=⟨_,rfl⟩
      subst hE;have E:=HF.out.wf;have aB:Hid (g=T.az a none):=by
       show _=_;rw[<-HF.out.eq,Tr.c6 S,Tr.gV E.2.1 D,Tr.gV E.2.2.1 D];simp only[Tr.az,ite_self];exact aD.out
      have Z:Hid (Kp ae w V/\ag V w.heap.size [.int .u32 0,.int .i64 0] 72):=⟨i.out.1,i.out.2.2.1⟩
      have p0:=i.out.2.1.ai;have p1:=i.out.2.1.aj;clear E D
      go_wp2_with(refine b0 rfl 72 (.tmp 4) (.tmp 56) rfl Z.out.2 [.int .u32 (bz g).1,.int .i64 (bz g).2] rfl rfl (by kernel_rfl) rfl (by simp[Value.oneCell']) ?_
                  intro W2 m _ o
                  have A:=aa m;have B:=aa (o _ _ Z.out.1 (.inr (Hm _)));clear m o)
      refine fu (by rfl) A.out _ Tryz.underlying72 rfl (by kernel_rfl) (by rfl) ?_;refine⟨?_,B.out⟩;rw[<-aJ.out,<-aB.out,N.out,O.out];rfl
     ·have s:((p.2:Int)==32)=false:=by rw[HM];omega
      go_wp2_with fail;clear m1 s;have GS:=aa (λW (k:Kp ae V W)=>aF (ff W b p ((q.out.kp k (λx=>x)).aj) (by have:=(a8.1 Q.1).1;omega) a ha));have q4:=q.out.a_;have q5:=q.out.bN;rcases bn p a with X|X
      ·rw[X]at GS
       refine ar 8 (by kernel_rfl) (λ_ _ _ _ _ h=>h) ?_;simp only[aO]
       repeat((first
        |refine ay (by rfl) (by as_aux_lemma=>intro W F;have e0:=F.cell q4 (λx=>x);go_simp;exact rfl) ?_
        |refine ah (by rfl) ?_
        |refine aR (by rfl) (by as_aux_lemma=>intro W;go_simp;exact⟨rfl,rfl⟩) (by intro W F;with_reducible first|exact GS.out W F) ?_);simp only[Act.put,aH])
       intro W5 f;have G:Hid (jv w W5 T l a c):=⟨af.out.old f,HF.out.wf.2.2.2.1,λM J=>HF.out.low M (by simp[Tr.aw,J]),by rw[<-HF.out.eq,Tr.c6 S,Hl X]<;>exact L.out l,i.out.2.1.kp f (λx=>x),i.out.2.2.1.kp f (λx=>x),i.out.2.2.2.trans f⟩
       have hlen:=hk;simp only[Tr.bq,Hs,HK]at hlen;clear f q4 q5 GS;go_wp2_with fail;go_roundg l.bq.length
       case measure=>omega
       case rel=>exact⟨l,c,_,rfl,by first|rfl|rw[N.out],by first|rfl|rw[O.out],Hm _,rfl,G.out⟩
      ·rw[X]at GS
       have al:¬aZ p a=0:=by omega
       refine ar 8 (by kernel_rfl) (λ_ _ _ _ _ h=>h) ?_;simp only[aO]
       repeat((first
        |refine ay (by rfl) (by as_aux_lemma=>intro W F;have e0:=F.cell q5 (λx=>x);go_simp;exact rfl) ?_
        |refine ah (by rfl) ?_
        |refine aR (by rfl) (by as_aux_lemma=>intro W;go_simp;exact⟨rfl,rfl⟩) (by intro W F;with_reducible first|exact GS.out W F) ?_);simp only[Act.put,aH])
       intro W5 f;have G:Hid (jv w W5 T r a c):=⟨ak.out.old f,HF.out.wf.2.2.2.2,λM J=>HF.out.low M (by simp[Tr.aw,J]),by rw[<-HF.out.eq,Tr.c6 S,Hk al]<;>exact L.out r,i.out.2.1.kp f (λx=>x),i.out.2.2.1.kp f (λx=>x),i.out.2.2.2.trans f⟩
       have hlen:=hk;simp only[Tr.bq,Hs,HK]at hlen;clear f q4 q5 GS;go_wp2_with fail;go_roundg r.bq.length
       case measure=>omega
       case rel=>exact⟨r,c,_,rfl,by first|rfl|rw[N.out],by first|rfl|rw[O.out],Hm _,rfl,G.out⟩
def mg(a b:Nat)(ha:a<4294967296)(e:b<4294967296):bits .xor .u32 (a:Int) (b:Int)=((a^^^b:Nat):Int):=by
 have f:a^^^b<2^32:=J0 (by omega) (by omega);have c:(BitVec.ofInt 32 (a:Int)).toNat=a:=by
  rw[KL,Kj];exact IH (by omega)
 have d:(BitVec.ofInt 32 (b:Int)).toNat=b:=by
  rw[KL,Kj];exact IH (by omega)
 show IntKind.u32.wrap ((BitVec.ofInt 32 (a:Int)^^^BitVec.ofInt 32 (b:Int)).toNat:Int)=_;rw[BitVec.toNat_xor,c,d,wrap_u32'];omega
def mV{P:Program}{f:Func}{s:Tmp}{ty:TypeId}(hf:f.results=#[.cell s ty]){R:Ending->World->Prop}{W:World}{g:Nat}{cs:List Value}{t:TypeId}{T:Array Value}(b:ag W g cs t)(d:TypeDesc)(hu:P.underlying ty=some d)(hd:(match d with| .struct _| .array _ _=>true|_=>false)=true)
    (hi:(P.info? ty).map (·.size)=some cs.length) (c:T.getD s undef=.pointer (some ⟨g,0,none⟩)) (e:R (.returned (.agg cs.toArray)) W):bodyPost P f R Exit.ret {tmps:=T,defers:=[]} W:=by
 refine HT (v:=.agg cs.toArray) ?_ rfl e;have a:T[s]?.getD undef=.pointer (some ⟨g,0,none⟩):=by simpa using c
 simp[results,hf,a,asAddr,Jy W g t ty cs.toArray (0,0) d b.is hu hd (by rw[HY];exact hi)]
def tr(w:World)(p q:Px)(hp:dt p)(R:dt q):
    Calls Tryz.prog 92 #[.agg #[.int .u32 p.1,.int .i64 p.2],.agg #[.int .u32 q.1,.int .i64 q.2]] w λe w'=>e=.returned (.agg #[.int .u32 (bF p q).1,.int .i64 (bF p q).2])/\Kp ae w w':=by
 obtain⟨a,f⟩:=p;obtain⟨c,j⟩:=q;obtain⟨D,d⟩:∃W,W=((w.alloc (.cells #[.int .u32 a,.int .i64 f] 72)).alloc (.cells #[.int .u32 c,.int .i64 j] 72)).alloc (.cells #[.int .u32 0,.int .i64 0] 72):=⟨_,rfl⟩
 have t:Kp ae w D:=by rw[d];exact(((Kp.refl _ _).alloc _).alloc _).alloc _
 have E:ag D w.heap.size [.int .u32 a,.int .i64 f] 72:=by rw[d];exact((ag.new w [.int .u32 a,.int .i64 f] _).alloc _).alloc _
 have b1:ag D (w.heap.size+1) [.int .u32 c,.int .i64 j] 72:=by
  rw[d];have:=ag.new (w.alloc (.cells #[.int .u32 a,.int .i64 f] 72)) [.int .u32 c,.int .i64 j] 72;rw[HB]at this
  exact this.alloc _
 have F:=aa d;have Y:a^^^c<4294967296:=J0 (n:=32) hp.2 R.2;have l:bits .xor .u32 (a:Int) (c:Int)=((a^^^c:Nat):Int):=mg a c hp.2 R.2;have u:=aa (λW=>Tryz.bits_LeadingZeros32 ((a^^^c:Nat):Int) W (by omega) (by omega));obtain⟨X,G⟩:∃X,a^^^c=X:=⟨_,rfl⟩
 rw[G]at l u
 obtain⟨n,C⟩:∃n,bh (a,f) (c,j)=n:=⟨_,rfl⟩
 have hle:=lY (a,f) (c,j);have v:=(a8.1 hp.1).1;have S:Lib.bitLen X=Go.Sort.bitsLen X:=bitLen_eq X (by omega);have y:Go.Sort.bitsLen X<=32:=by rw[Go.Sort.bitsLen_le_iff];omega
 have m:(if(j:Int)<if(f:Int)<32-(Lib.bitLen X:Int)then(f:Int)else 32-(Lib.bitLen X:Int)then(j:Int)else if(f:Int)<32-(Lib.bitLen X:Int)then(f:Int)else 32-(Lib.bitLen X:Int))=(n:Int):=by
  rw[<-C,S];unfold bh;simp only[G];split<;>split<;>omega
 have T:n<=32:=by rw[<-C];simp only at hle v;omega
 have g:=qE a hp.2 (b:=(n:Int)) (by omega) (by omega);rw[HZ]at g
 have o:bF (a,f) (c,j)=(a/2^(32-n)*2^(32-n),n):=by unfold bF;rw[C]
 have H:=aa (λW=>uC (n:Int) W (by omega));rw[o];obtain⟨M,I⟩:∃M,maskN (eo (n:Int))=M:=⟨_,rfl⟩
 obtain⟨Z,J⟩:∃Z,a/2^(32-n)*2^(32-n)=Z:=⟨_,rfl⟩
 rw[I,J]at g
 rw[I]at H
 rw[J];have c0:=E.ai;have c1:=E.aj;have K:=b1.ai;have L:=b1.aj;rw[d]at c0 c1 K L
 have z:=aa m;clear d m S C hle o I J G y;go_enter Tryz.func92,Tryz.ntmps92;go_wp2_with fail;refine ar 11 (by kernel_rfl) (λ_ _ _ _ _ h=>h) ?_;simp only[aO]
 repeat((first
    |refine ay (by rfl) (by as_aux_lemma=>intro W r;have U:=r.cell c0 (λx=>x);have e1:=r.cell c1 (λx=>x);have e2:=r.cell K (λx=>x);have e3:=r.cell L (λx=>x);go_simp;exact rfl) ?_
    |refine ah (by rfl) ?_
    |refine aR (by rfl) (by as_aux_lemma=>intro W;go_simp;exact⟨rfl,rfl⟩) (by intro W r;with_reducible first|exact aF ((u.out W).mono λe w' h=>⟨h.1,h.2.symm⟩)) ?_);simp only[Act.put,aH])
 intro V k;rw[z.out];have i:=t;rw[F.out]at i
 have N:=aa (i.trans k);have d0:=k.cell c0 (λx=>x);have O:Hid (ag V (w.heap.size+1+1) [.int .u32 0,.int .i64 0] 72):=by
  have:=ag.new ((w.alloc (.cells #[.int .u32 a,.int .i64 f] 72)).alloc (.cells #[.int .u32 c,.int .i64 j] 72)) [.int .u32 0,.int .i64 0] 72;rw[HB,HB]at this
  exact this.kp k (λx=>x)
 clear k c0 c1 K L l t i E b1;go_wp2_with fail;refine ar 7 (by kernel_rfl) (λ_ _ _ _ _ h=>h) ?_;simp only[aO]
 repeat((first
    |refine ay (by rfl) (by as_aux_lemma=>intro W r;have U:=r.cell d0 (λx=>x);go_simp;exact rfl) ?_
    |refine ah (by rfl) ?_
    |refine aR (by rfl) (by as_aux_lemma=>intro W;go_simp;exact⟨rfl,rfl⟩) (by intro W r;with_reducible first|exact aF (H.out W)|exact aF ((H.out W).mono λe w2 h=>⟨h.1,h.2.symm⟩)) ?_);simp only[Act.put,aH])
 intro W5 s;refine b0 rfl 72 (.tmp 4) (.tmp 23) rfl (O.out.kp s (λx=>x)) [.int .u32 Z,.int .i64 n] rfl rfl (by kernel_rfl) rfl (by simp[Value.oneCell']) ?_;intro W6 A _ B;have P:=aa A;have Q:=aa (B _ _ (N.out.trans s) (.inr (by omega)));clear A B s d0;simp only[Act.put];go_wp2_with fail;refine mV (by rfl) P.out _ Tryz.underlying72 rfl (by kernel_rfl) (by rfl) ?_;exact⟨rfl,Q.out⟩
def zl(p q:Px)(w:World):(Op.equalIn 10000 72 (.agg #[.int .u32 p.1,.int .i64 p.2]) (.agg #[.int .u32 q.1,.int .i64 q.2])).run Tryz.prog w=.ok (decide (p=q)) w:=by
 go_simp;obtain⟨a,b⟩:=p;obtain⟨c,d⟩:=q;by_cases h:(a,b)=(c,d)
 ·cases h;simp
 ·rw[HN h];split
  ·split
   ·exact absurd (Prod.ext (by simp;omega) (by simp;omega)) h
   ·rfl
  ·rfl
def C3(p q:Px)(w:World):(binOp .eql 72 (.agg #[.int .u32 p.1,.int .i64 p.2]) (.agg #[.int .u32 q.1,.int .i64 q.2])).run Tryz.prog w=.ok (.bool (decide (p=q))) w:=by
 rw[run_eql_struct,zl];rfl
def qN(p q:Px)(w:World):(binOp .neq 72 (.agg #[.int .u32 p.1,.int .i64 p.2]) (.agg #[.int .u32 q.1,.int .i64 q.2])).run Tryz.prog w=.ok (.bool (!decide (p=q))) w:=by
 rw[run_neq_struct,zl];rfl
def eg(T:Tr)(p:Px):Value:=match T.at_ p with|some (b,_,_)=>.pointer (some ⟨b,0,none⟩)|none=>.pointer none
structure lF (w wr:World) (T t:Tr) (p:Px):Prop where
 mem:cy wr t
 wf:t.WF
 eq:eg t p=eg T p
 pb:ag wr w.heap.size [.int .u32 p.1,.int .i64 p.2] 72
 kp:Kp ae w wr
def lF.old{w wr w':World}{T t:Tr}{p:Px}(h:lF w wr T t p)(k:Kp ae wr w'):lF w w' T t p:=
 ⟨h.mem.old k,h.wf,h.eq,h.pb.kp k (λx=>x),h.kp.trans k⟩
def r3(w:World)(tb:Nat)(T:Tr)(n:Int)(hT:ag w tb [T.ptr,.int .i64 n] 287)(hM:cy w T)(hw:T.WF)(p:Px)(hp:dt p):
    Calls Tryz.prog 125 #[.pointer (some ⟨tb,0,none⟩),.agg #[.int .u32 p.1,.int .i64 p.2]] w λe w'=>e=.returned (eg T p)/\Kp ae w w':=by
 have i:=(Kp.refl ae w).alloc (.cells #[.int .u32 p.1,.int .i64 p.2] 72);have j:ag (w.alloc (.cells #[.int .u32 p.1,.int .i64 p.2] 72)) w.heap.size [.int .u32 p.1,.int .i64 p.2] 72:=ag.new w [.int .u32 p.1,.int .i64 p.2] _;obtain⟨W1,F⟩:∃W,W=w.alloc (.cells #[.int .u32 p.1,.int .i64 p.2] 72):=⟨_,rfl⟩
 rw[<-F]at i j
 have an:=(a8.1 hp.1).1;have GR:=aa (λW=>hr p.1 p.2 W hp.2 (by omega));have ao:bs p.1 p.2=true:=hp.1;rw[ao]at GR
 have V:Hid (lF w W1 T T p):=⟨hM.old i,hw,rfl,j,i⟩
 have aq:=aa (hT.kp i (λx=>x));have c0:=aq.out.ai;have p0:=j.ai;have p1:=j.aj;obtain⟨O,A⟩:∃v,T.ptr=v:=⟨_,rfl⟩
 have X:=aa A;rw[A]at c0
 obtain⟨R,Y⟩:∃R,eg T p=R:=⟨_,rfl⟩
 have P:=aa Y;rw[Y];clear hT hM hw i j A Y ao;subst F;go_enter Tryz.func125,Tryz.ntmps125
 go_wp2_with(go_at_call 39;refine(GR.out _).mono ?_;rintro e w1 ⟨rfl,i⟩
             have HF:=aa (V.out.old i);have c0:=i.cell c0 (λx=>x)
             clear i p0 p1 aq)
 go_loopg [5] T.bq.length (λk s5 wr=>∃(t:Tr) (O:Value),O=s5/\t.bq.length<=k/\Hid (t.ptr=O/\lF w wr T t p))
 case atStart=>exact⟨T,_,rfl,Hm _,X.out,HF.out⟩
 case round=>
  clear HF c0;obtain⟨t,O,rfl,hk,Q⟩:=hrel;cases t with
  |nil=>
   obtain⟨B,hi⟩:=Q.out;obtain rfl:=B;have HF:=aa hi;simp only[Tr.ptr];clear hi Q;have y:eg T p=.pointer none:=by rw[<-HF.out.eq];rfl
   have Z:=aa y;clear y;go_wp2_with fail;go_region;go_wp2_with fail;go_ret;exact⟨by rw[<-P.out,Z.out];rfl,HF.out.kp.drew⟩
  |node b kp u x l r=>
   obtain⟨B,hi⟩:=Q.out;obtain rfl:=B;have HF:=aa hi;obtain⟨E,G,H⟩:=hi.mem;have n0:=E.ai;have n1:=E.aj;have n4:=E.a_;have n5:=E.bN;have z:=hi.pb.ai;have q1:=hi.pb.aj;have I:=hi.wf.1;have au:=(a8.1 I.1).1;have NQ:=qN kp p;simp only[Tr.ptr];have Z:=aa E;have av:=aa G;have ac:=aa H;clear hi Q E G H;by_cases d:kp=p
   ·have hd:decide (kp=p)=true:=Hz d;simp only[hd]at NQ;have a:eg T p=.pointer (some ⟨b,0,none⟩):=by rw[<-HF.out.eq];unfold eg Tr.at_;rw[Hl d]
    have o:=aa a;clear a hd d;go_wp2_with fail;go_region;go_wp2_with fail;go_ret;exact⟨by rw[<-P.out,o.out];rfl,HF.out.kp.drew⟩
   ·have hd:decide (kp=p)=false:=HN d;simp only[hd]at NQ;have J:=hp.2;have ad:=I.2;go_wp2_with fail;go_region;by_cases hb:p.2<=kp.2
    ·have a:eg T p=.pointer none:=by rw[<-HF.out.eq];unfold eg Tr.at_;rw[Hk d,Hl (.inl hb)]
     have o:=aa a;have q:decide ((kp.2:Int)≥(p.2:Int))=true:=by rw[HI];omega
     clear a hd d q;go_wp2_with fail;go_region;go_wp2_with fail;go_ret;exact⟨by rw[<-P.out,o.out];rfl,HF.out.kp.drew.drew⟩
    ·have q:decide ((kp.2:Int)≥(p.2:Int))=false:=by rw[Io];omega
     have K:=aa (λW=>iN kp.1 p.1 kp.2 p.2 W ad J (by omega) (by omega));have C:=aa hb;have L:=aa d;cases S:bT kp p with
     |false=>
      have a:eg T p=.pointer none:=by rw[<-HF.out.eq];unfold eg Tr.at_;rw[Hk d,Hl (.inr S)]
      have o:=aa a;rw[show gj kp.1 kp.2 p.1 p.2=false from S]at K
      clear a hd d q;go_wp2_with fail;refine ar 15 (by kernel_rfl) (λ_ _ _ _ _ h=>h) ?_;simp only[aO]
      repeat((first
        |refine ay (by rfl) (by as_aux_lemma=>intro W f;have e0:=f.cell n0 (λx=>x);have e1:=f.cell n1 (λx=>x);have e2:=f.cell z (λx=>x);have e3:=f.cell q1 (λx=>x);go_simp;exact rfl) ?_
        |refine ah (by rfl) ?_
        |refine aR (by rfl) (by as_aux_lemma=>intro W;go_simp;exact⟨rfl,rfl⟩) (by intro W f;with_reducible first|exact K.out W) ?_);simp only[Act.put,aH])
      intro W5 g;have af:=aa ((Kp.refl ae wr).drew.trans g);clear g;go_wp2_with fail;go_ret;exact⟨by rw[<-P.out,o.out];rfl,HF.out.kp.trans af.out⟩
     |true=>
      rw[show gj kp.1 kp.2 p.1 p.2=true from S]at K
      have M:=aa S;clear hd d q;go_wp2_with fail;refine ar 15 (by kernel_rfl) (λ_ _ _ _ _ h=>h) ?_;simp only[aO]
      repeat((first
        |refine ay (by rfl) (by as_aux_lemma=>intro W f;have e0:=f.cell n0 (λx=>x);have e1:=f.cell n1 (λx=>x);have e2:=f.cell z (λx=>x);have e3:=f.cell q1 (λx=>x);go_simp;exact rfl) ?_
        |refine ah (by rfl) ?_
        |refine aR (by rfl) (by as_aux_lemma=>intro W;go_simp;exact⟨rfl,rfl⟩) (by intro W f;with_reducible first|exact K.out W) ?_);simp only[Act.put,aH])
      intro W5 g;replace g:=(Kp.refl ae wr).drew.trans g;have m:=aa (HF.out.old g);have s:=aa (Z.out.kp g (λx=>x));have ak:=aa (av.out.old g);have al:=aa (ac.out.old g);clear g n0 n1 n4 n5 z q1 K;have n1:=s.out.aj;have n4:=s.out.a_;have n5:=s.out.bN;have z:=m.out.pb.ai;have GS:=aa (λW (k:Kp ae W5 W)=>aF (ff W b kp ((s.out.kp k (λx=>x)).aj) (by have:=C.out;omega) p.1 J));rcases bn kp p.1 with U|U
      ·have a:eg l p=eg T p:=by
        rw[<-HF.out.eq]
        conv=>rhs;unfold eg Tr.at_
        rw[Hk L.out,Hk (by rw[M.out];simpa using C.out),Hl U];rfl
       have o:=aa a;rw[U]at GS
       clear a;go_wp2_with fail;refine ar 8 (by kernel_rfl) (λ_ _ _ _ _ h=>h) ?_;simp only[aO]
       repeat((first
           |refine ay (by rfl) (by as_aux_lemma=>intro W f;have e0:=f.cell z (λx=>x);have e1:=f.cell n4 (λx=>x);go_simp;exact rfl) ?_
           |refine ah (by rfl) ?_
           |refine aR (by rfl) (by as_aux_lemma=>intro W;go_simp;exact⟨rfl,rfl⟩) (by intro W f;with_reducible first|exact GS.out W f) ?_);simp only[Act.put,aH])
       intro W6 c;have D:Hid (lF w W6 T l p):=⟨ak.out.old c,HF.out.wf.2.2.2.1,o.out,m.out.pb.kp c (λx=>x),m.out.kp.trans c⟩
       have hlen:=hk;simp only[Tr.bq,Hs,HK]at hlen;have n4:=c.cell n4 (λx=>x);clear c n5 n1 z GS;go_wp2_with fail;go_roundg l.bq.length
       case measure=>omega
       case rel=>exact⟨l,_,rfl,Hm _,rfl,D.out⟩
      ·have N:¬aZ kp p.1=0:=by omega
       have a:eg r p=eg T p:=by
        rw[<-HF.out.eq]
        conv=>rhs;unfold eg Tr.at_
        rw[Hk L.out,Hk (by rw[M.out];simpa using C.out),Hk N];rfl
       have o:=aa a;rw[U]at GS
       clear a N;go_wp2_with fail;refine ar 8 (by kernel_rfl) (λ_ _ _ _ _ h=>h) ?_;simp only[aO]
       repeat((first
           |refine ay (by rfl) (by as_aux_lemma=>intro W f;have e0:=f.cell z (λx=>x);have e1:=f.cell n5 (λx=>x);go_simp;exact rfl) ?_
           |refine ah (by rfl) ?_
           |refine aR (by rfl) (by as_aux_lemma=>intro W;go_simp;exact⟨rfl,rfl⟩) (by intro W f;with_reducible first|exact GS.out W f) ?_);simp only[Act.put,aH])
       intro W6 c;have D:Hid (lF w W6 T r p):=⟨al.out.old c,HF.out.wf.2.2.2.2,o.out,m.out.pb.kp c (λx=>x),m.out.kp.trans c⟩
       have hlen:=hk;simp only[Tr.bq,Hs,HK]at hlen;have n5:=c.cell n5 (λx=>x);clear c n4 n1 z GS;go_wp2_with fail;go_roundg r.bq.length
       case measure=>omega
       case rel=>exact⟨r,_,rfl,Hm _,rfl,D.out⟩
end
section
open Go Go.RowKit Go.Shelf
def vZ:(Tryz.prog.info? 228).map (·.size)=some 2:=by kernel_rfl
def zm(p:Int)(b n:Nat)(hp:0<=p/\p<=1000000)(c:b+n<18446744073709551616)(w:World):Calls Tryz.prog 158 #[.agg #[.int .i64 p,.int .u64 b],.int .u64 n] w λe w'=>e=.returned (.agg #[.int .i64 (p+1),.int .u64 ((b:Int)+n)])/\Kp ae w w':=by
 have hw:IntKind.u64.wrap ((b:Int)+n)=(b:Int)+n:=by rw[HO];omega
 go_enter Tryz.func158,Tryz.ntmps158;go_wp2;have a:=ag.new (w.alloc (.cells #[.int .i64 p,.int .u64 b] 228)) [.int .i64 (p+1),.int .u64 ((b:Int)+n)] 228;rw[HB]at a
 exact iI (by exact rfl) a _ Tryz.underlying228 rfl vZ (by exact rfl) ⟨rfl,((Kp.refl ae w).alloc _).alloc _⟩
def zn(p:Int)(b n:Nat)(hp:1<=p/\p<=1000000)(d:n<=b)(c:b<18446744073709551616)(w:World):Calls Tryz.prog 135 #[.agg #[.int .i64 p,.int .u64 b],.int .u64 n] w λe w'=>e=.returned (.agg #[.int .i64 (p-1),.int .u64 ((b:Int)-n)])/\Kp ae w w':=by
 have hw:IntKind.u64.wrap ((b:Int)-n)=(b:Int)-n:=by rw[HO];omega
 go_enter Tryz.func135,Tryz.ntmps135;go_wp2;have a:=ag.new (w.alloc (.cells #[.int .i64 p,.int .u64 b] 228)) [.int .i64 (p-1),.int .u64 ((b:Int)-n)] 228;rw[HB]at a
 exact iI (by exact rfl) a _ Tryz.underlying228 rfl vZ (by exact rfl) ⟨rfl,((Kp.refl ae w).alloc _).alloc _⟩
def xL(s:Nat):ob 0 s=0:=by simp[ob]
def ts(a:Nat)(h:a<18446744073709551616):ob a 0=a:=by simp[ob,h]
def zo{a s:Nat}(L:Nat)(b:a<2^L)(c:L+s<=64):ob a s=a*2^s:=by
 unfold ob;rw[Hl];have d:a*2^s<2^L*2^s:=Lh b (KP (by simp));rw[<-Jl]at d
 have e:2^(L+s)<=2^64:=ID (by decide) c;have f:(2:Nat)^64=18446744073709551616:=by decide
 omega
def xM{a s:Nat}(L:Nat)(d:0<L)(b:2^(L-1)<=a)(e:64<L+s):ob a s=18446744073709551615:=by
 unfold ob;rw[Hk];have c:2^(L-1)*2^s<=a*2^s:=I0 _ b;rw[<-Jl]at c
 have f:(2:Nat)^64<=2^(L-1+s):=ID (by decide) (by omega);have g:(2:Nat)^64=18446744073709551616:=by decide
 omega
def zp(f:Nat):Lib.bitLenAux f 0=0:=by cases f<;>simp[Lib.bitLenAux]
def tt:∀(f x:Nat),x<2^f->0<x->0<Lib.bitLenAux f x/\Lib.bitLenAux f x<=f/\2^(Lib.bitLenAux f x-1)<=x/\x<2^Lib.bitLenAux f x
 |0,x,h,a=>by simp at h;omega
 |f+1,x,h,a=>by
  have e:Lib.bitLenAux (f+1) x=1+Lib.bitLenAux f (x/2):=by
   show(if x=0 then 0 else 1+Lib.bitLenAux f (x/2))=_;rw[Hk (by omega)]
  rw[e];rw[Ij]at h
  by_cases b:x/2=0
  ·rw[b,zp];refine⟨by omega,by omega,?_,?_⟩
   ·show 2^(1+0-1)<=x;simp;omega
   ·show x<2^(1+0);simp;omega
  ·obtain⟨a1,a2,a3,a4⟩:=tt f (x/2) (by omega) (by omega);generalize Lib.bitLenAux f (x/2)=L at*;obtain⟨K,rfl⟩:∃K,L=K+1:=⟨L-1,by omega⟩
   have c:2^(K+1)=2^K*2:=Ij ..;have d:2^(1+(K+1))=2^K*2*2:=by rw[show 1+(K+1)=K+1+1 by omega,Ij,Ij]
   rw[J4]at a3
   refine⟨by omega,by omega,?_,?_⟩
   ·rw[show 1+(K+1)-1=K+1 by omega];omega
   ·omega
def Bp(a s:Nat)(ha:a<18446744073709551616)(t:s<=16)(w:World):Calls Tryz.prog 157 #[.int .u64 a,.int .i64 s] w λe w'=>e=.returned (.int .u64 (ob a s))/\w=w':=by
 by_cases k:a=0
 ·subst k;rw[xL];go_enter Tryz.func157,Tryz.ntmps157;go_wp2;go_ret;exact⟨rfl,rfl⟩
 ·have l:((a:Int)==0)=false:=by rw[HM];omega
  by_cases m:s=0
  ·subst m;rw[ts a ha];go_enter Tryz.func157,Tryz.ntmps157;go_wp2;go_ret;exact⟨rfl,rfl⟩
  ·have n:¬(s:Int)<=0:=by omega
   have o:¬(64:Int)<=s:=by omega
   obtain⟨b1,b2,d,c⟩:=tt 64 a (by have:(2:Nat)^64=18446744073709551616:=(by decide);omega) (by omega);have b:=Tryz.bits_Len64 (a:Int) w (by omega) (by omega);rw[HZ]at b
   unfold Lib.bitLen at b;obtain⟨L,f⟩:∃L,Lib.bitLenAux 64 a=L:=⟨_,rfl⟩
   rw[f]at b1 b2 d c b
   have i:=aa b;by_cases j:L+s<=64
   ·have g:¬(64:Int)<(L:Int)+s:=by omega
    have h:=aa (zo L c j);have p:Hid (IntKind.u64.wrap ((a:Int)*2^s)=((a*2^s:Nat):Int)):=by
     show _=_;have q:a*2^s<2^L*2^s:=Lh c (KP (by simp));rw[<-Jl]at q
     have u:2^(L+s)<=2^64:=ID (by decide) j;have v:(2:Nat)^64=18446744073709551616:=by decide
     have r:((a*2^s:Nat):Int)=(a:Int)*2^s:=by simp
     rw[<-r,HO];omega
    clear b d c f;go_enter Tryz.func157,Tryz.ntmps157;go_wp2_with(go_at_call 155;refine i.out.mono ?_;rintro e w' ⟨rfl,rfl⟩);go_ret;exact⟨by rw[h.out,<-p.out];rfl,rfl⟩
   ·have g:(64:Int)<(L:Int)+s:=by omega
    have h:=aa (xM (s:=s) L b1 d (by omega));clear b d c f;go_enter Tryz.func157,Tryz.ntmps157;go_wp2_with(go_at_call 155;refine i.out.mono ?_;rintro e w' ⟨rfl,rfl⟩);go_ret;exact⟨by rw[h.out];rfl,rfl⟩
def hX(ei n:Nat)(is:Bool)(P c:Int)(d a b m:Nat):Int:=
 if n=0\/ei<n then 12 else if is=false then 13 else if P<=c then 14 else if d-a<n then 15 else if m-b<n then 16 else 0
def Bq{w:World}{gb tb:Nat}(P z:Int)(t f ei id n:Nat)(p:Int)(b m:Nat)(is:Bool)(F:w.cell? ⟨gb,4,none⟩=some (.int .i64 P))(G:w.cell? ⟨gb,5,none⟩=some (.int .u64 t))(L:w.cell? ⟨gb,7,none⟩=some (.int .u64 ei))(o:w.cell? ⟨gb,11,none⟩=some (.int .i64 z))(q:w.cell? ⟨gb,12,none⟩=some (.int .u64 f))(D:w.cell? ⟨gb,13,none⟩=some (.pointer (some ⟨tb,0,none⟩)))
    (C:∀W,Kp ae w W->Calls Tryz.prog 134 #[.pointer (some ⟨tb,0,none⟩),.int .u32 id] W λe w'=>e=.returned (.tuple #[.agg #[.int .i64 p,.int .u64 b,.int .u64 m],.bool is])/\Kp ae W w') (hle:f<=t) (ad:t<18446744073709551616) (af:b<=m) (hm:m<18446744073709551616):
    Calls Tryz.prog 156 #[.pointer (some ⟨gb,0,none⟩),.int .u32 id,.int .u64 n] w λe w'=>e=.returned (.int .i64 (hX ei n is P z t f b m))/\Kp ae w w':=by
 by_cases S:n=0
 ·subst S;have A:Hid (hX ei 0 is P z t f b m=12):=by show _=_;unfold hX;rw[Hl (.inl rfl)]
  clear C;go_enter Tryz.func156,Tryz.ntmps156;go_wp2;go_ret;exact⟨by rw[A.out];rfl,Kp.refl _ _⟩
 have ak:((n:Int)==0)=false:=by rw[HM];omega
 by_cases T:ei<n
 ·have U:(ei:Int)<n:=by omega
  have A:Hid (hX ei n is P z t f b m=12):=by show _=_;unfold hX;rw[Hl (.inr T)]
  clear C;go_enter Tryz.func156,Tryz.ntmps156;go_wp2;go_ret;exact⟨by rw[A.out];rfl,Kp.refl _ _⟩
 have U:¬(ei:Int)<n:=by omega
 cases is with
 |false=>
  have A:Hid (hX ei n false P z t f b m=13):=by show _=_;unfold hX;rw[Hk (by omega),Hl rfl]
  clear S T;go_enter Tryz.func156,Tryz.ntmps156;go_wp2_with fail;refine(C w (Kp.refl _ _)).mono ?_;rintro e i ⟨rfl,a⟩;have s:=aa a;have d4:=a.cell F (λx=>x);have d5:=a.cell G (λx=>x);have d11:=a.cell o (λx=>x);have d12:=a.cell q (λx=>x);clear a F G L o q D C;go_wp2_with fail;go_ret;exact⟨by rw[A.out];rfl,s.out.alloc _⟩
 |true=>
  have g:hX ei n true P z t f b m=if P<=z then 14 else if t-f<n then 15 else if m-b<n then 16 else 0:=by unfold hX;rw[Hk (by omega),Hk (by simp)]
  clear S T;by_cases N:P<=z
  ·have A:Hid (hX ei n true P z t f b m=14):=by show _=_;rw[g,Hl N]
   clear g;go_enter Tryz.func156,Tryz.ntmps156;go_wp2_with fail;refine(C w (Kp.refl _ _)).mono ?_;rintro e i ⟨rfl,a⟩;have s:=aa a;have d4:=a.cell F (λx=>x);have d5:=a.cell G (λx=>x);have d11:=a.cell o (λx=>x);have d12:=a.cell q (λx=>x);clear a F G L o q D C;go_wp2_with fail;have j:=aa (ag.new i [.int .i64 p,.int .u64 b,.int .u64 m] 230);have c:=(Kp.refl ae i).alloc (.cells #[.int .i64 p,.int .u64 b,.int .u64 m] 230);have u:=aa (s.out.trans c);have f4:=c.cell d4 (λx=>x);have f5:=c.cell d5 (λx=>x);have f11:=c.cell d11 (λx=>x);have f12:=c.cell d12 (λx=>x);obtain⟨y,hy⟩:∃y,i.heap.size=y:=⟨_,rfl⟩
   rw[hy]at j ⊢
   change Code.wp _ _ _ _ (i.alloc (.cells #[.int .i64 p,.int .u64 b,.int .u64 m] 230));generalize i.alloc (.cells #[.int .i64 p,.int .u64 b,.int .u64 m] 230)=V at*;clear c d4 d5 d11 d12 hy;refine ar 11 (by kernel_rfl) (λ_ _ _ _ _ h=>h) ?_;simp only[aO]
   repeat((first
    |refine ay (by rfl) (by as_aux_lemma=>intro W r;have J:=r.cell f4 (λx=>x);have K:=r.cell f11 (λx=>x);go_simp;exact rfl) ?_
    |refine ah (by rfl) ?_);simp only[Act.put,aH])
   intro X d;have v:=aa (u.out.trans d);have B:=aa (j.out.kp d (λx=>x));have g5:=d.cell f5 (λx=>x);have g12:=d.cell f12 (λx=>x);clear d f4 f5 f11 f12;go_wp2_with fail;go_ret;exact⟨by rw[A.out];rfl,v.out⟩
  rw[Hk N]at g
  have al:decide (P<=z)=false:=by simpa using N
  clear N;obtain⟨R,H⟩:∃R,t-f=R:=⟨_,rfl⟩
  have an:(t:Int)-f=(R:Int):=by omega
  have Y:Hid (IntKind.u64.wrap (R:Int)=(R:Int)):=by show _=_;rw[HO];omega
  rw[H]at g
  by_cases M:R<n
  ·have Z:(R:Int)<n:=by omega
   have A:Hid (hX ei n true P z t f b m=15):=by show _=_;rw[g,Hl M]
   clear g H M;go_enter Tryz.func156,Tryz.ntmps156;go_wp2_with fail;refine(C w (Kp.refl _ _)).mono ?_;rintro e i ⟨rfl,a⟩;have s:=aa a;have d4:=a.cell F (λx=>x);have d5:=a.cell G (λx=>x);have d11:=a.cell o (λx=>x);have d12:=a.cell q (λx=>x);clear a F G L o q D C;go_wp2_with fail;have j:=aa (ag.new i [.int .i64 p,.int .u64 b,.int .u64 m] 230);have c:=(Kp.refl ae i).alloc (.cells #[.int .i64 p,.int .u64 b,.int .u64 m] 230);have u:=aa (s.out.trans c);have f4:=c.cell d4 (λx=>x);have f5:=c.cell d5 (λx=>x);have f11:=c.cell d11 (λx=>x);have f12:=c.cell d12 (λx=>x);obtain⟨y,hy⟩:∃y,i.heap.size=y:=⟨_,rfl⟩
   rw[hy]at j ⊢
   change Code.wp _ _ _ _ (i.alloc (.cells #[.int .i64 p,.int .u64 b,.int .u64 m] 230));generalize i.alloc (.cells #[.int .i64 p,.int .u64 b,.int .u64 m] 230)=V at*;clear c d4 d5 d11 d12 hy;refine ar 11 (by kernel_rfl) (λ_ _ _ _ _ h=>h) ?_;simp only[aO]
   repeat((first
    |refine ay (by rfl) (by as_aux_lemma=>intro W r;have J:=r.cell f4 (λx=>x);have K:=r.cell f11 (λx=>x);go_simp;exact rfl) ?_
    |refine ah (by rfl) ?_);simp only[Act.put,aH])
   intro X d;have v:=aa (u.out.trans d);have B:=aa (j.out.kp d (λx=>x));have g5:=d.cell f5 (λx=>x);have g12:=d.cell f12 (λx=>x);clear d f4 f5 f11 f12;go_wp2_with fail;refine ar 13 (by kernel_rfl) (λ_ _ _ _ _ h=>h) ?_;simp only[aO]
   repeat((first
    |refine ay (by rfl) (by as_aux_lemma=>intro W r;have J:=r.cell g5 (λx=>x);have K:=r.cell g12 (λx=>x);have e2:=Y.out;go_simp;exact rfl) ?_
    |refine ah (by rfl) ?_);simp only[Act.put,aH])
   intro W5 k;have E:=aa (v.out.trans k);have l:=aa (B.out.kp k (λx=>x));clear k g5 g12;have y0:=l.out.ai;have y1:=l.out.aj;have y2:=l.out.aq;go_wp2_with fail;go_ret;exact⟨by rw[A.out];rfl,E.out⟩
  have Z:¬(R:Int)<n:=by omega
  rw[Hk M]at g
  have h6:¬(m:Int)<b:=by omega
  obtain⟨Q,I⟩:∃Q,m-b=Q:=⟨_,rfl⟩
  have ao:(m:Int)-b=(Q:Int):=by omega
  have au:IntKind.u64.wrap (Q:Int)=(Q:Int):=by rw[HO];omega
  have av:¬(m<b):=by omega
  rw[I]at g
  by_cases O:Q<n
  ·have ac:(Q:Int)<n:=by omega
   have A:Hid (hX ei n true P z t f b m=16):=by show _=_;rw[g,Hl O]
   clear g H M O I;go_enter Tryz.func156,Tryz.ntmps156;go_wp2_with fail;refine(C w (Kp.refl _ _)).mono ?_;rintro e i ⟨rfl,a⟩;have s:=aa a;have d4:=a.cell F (λx=>x);have d5:=a.cell G (λx=>x);have d11:=a.cell o (λx=>x);have d12:=a.cell q (λx=>x);clear a F G L o q D C;go_wp2_with fail;have j:=aa (ag.new i [.int .i64 p,.int .u64 b,.int .u64 m] 230);have c:=(Kp.refl ae i).alloc (.cells #[.int .i64 p,.int .u64 b,.int .u64 m] 230);have u:=aa (s.out.trans c);have f4:=c.cell d4 (λx=>x);have f5:=c.cell d5 (λx=>x);have f11:=c.cell d11 (λx=>x);have f12:=c.cell d12 (λx=>x);obtain⟨y,hy⟩:∃y,i.heap.size=y:=⟨_,rfl⟩
   rw[hy]at j ⊢
   change Code.wp _ _ _ _ (i.alloc (.cells #[.int .i64 p,.int .u64 b,.int .u64 m] 230));generalize i.alloc (.cells #[.int .i64 p,.int .u64 b,.int .u64 m] 230)=V at*;clear c d4 d5 d11 d12 hy;refine ar 11 (by kernel_rfl) (λ_ _ _ _ _ h=>h) ?_;simp only[aO]
   repeat((first
    |refine ay (by rfl) (by as_aux_lemma=>intro W r;have J:=r.cell f4 (λx=>x);have K:=r.cell f11 (λx=>x);go_simp;exact rfl) ?_
    |refine ah (by rfl) ?_);simp only[Act.put,aH])
   intro X d;have v:=aa (u.out.trans d);have B:=aa (j.out.kp d (λx=>x));have g5:=d.cell f5 (λx=>x);have g12:=d.cell f12 (λx=>x);clear d f4 f5 f11 f12;go_wp2_with fail;refine ar 13 (by kernel_rfl) (λ_ _ _ _ _ h=>h) ?_;simp only[aO]
   repeat((first
    |refine ay (by rfl) (by as_aux_lemma=>intro W r;have J:=r.cell g5 (λx=>x);have K:=r.cell g12 (λx=>x);have e2:=Y.out;go_simp;exact rfl) ?_
    |refine ah (by rfl) ?_);simp only[Act.put,aH])
   intro W5 k;have E:=aa (v.out.trans k);have l:=aa (B.out.kp k (λx=>x));clear k g5 g12;have y0:=l.out.ai;have y1:=l.out.aj;have y2:=l.out.aq;go_wp2_with fail;go_ret;exact⟨by rw[A.out];rfl,E.out⟩
  ·have ac:¬(Q:Int)<n:=by omega
   have A:Hid (hX ei n true P z t f b m=0):=by show _=_;rw[g,Hk O]
   clear g H M O I;go_enter Tryz.func156,Tryz.ntmps156;go_wp2_with fail;refine(C w (Kp.refl _ _)).mono ?_;rintro e i ⟨rfl,a⟩;have s:=aa a;have d4:=a.cell F (λx=>x);have d5:=a.cell G (λx=>x);have d11:=a.cell o (λx=>x);have d12:=a.cell q (λx=>x);clear a F G L o q D C;go_wp2_with fail;have j:=aa (ag.new i [.int .i64 p,.int .u64 b,.int .u64 m] 230);have c:=(Kp.refl ae i).alloc (.cells #[.int .i64 p,.int .u64 b,.int .u64 m] 230);have u:=aa (s.out.trans c);have f4:=c.cell d4 (λx=>x);have f5:=c.cell d5 (λx=>x);have f11:=c.cell d11 (λx=>x);have f12:=c.cell d12 (λx=>x);obtain⟨y,hy⟩:∃y,i.heap.size=y:=⟨_,rfl⟩
   rw[hy]at j ⊢
   change Code.wp _ _ _ _ (i.alloc (.cells #[.int .i64 p,.int .u64 b,.int .u64 m] 230));generalize i.alloc (.cells #[.int .i64 p,.int .u64 b,.int .u64 m] 230)=V at*;clear c d4 d5 d11 d12 hy;refine ar 11 (by kernel_rfl) (λ_ _ _ _ _ h=>h) ?_;simp only[aO]
   repeat((first
    |refine ay (by rfl) (by as_aux_lemma=>intro W r;have J:=r.cell f4 (λx=>x);have K:=r.cell f11 (λx=>x);go_simp;exact rfl) ?_
    |refine ah (by rfl) ?_);simp only[Act.put,aH])
   intro X d;have v:=aa (u.out.trans d);have B:=aa (j.out.kp d (λx=>x));have g5:=d.cell f5 (λx=>x);have g12:=d.cell f12 (λx=>x);clear d f4 f5 f11 f12;go_wp2_with fail;refine ar 13 (by kernel_rfl) (λ_ _ _ _ _ h=>h) ?_;simp only[aO]
   repeat((first
    |refine ay (by rfl) (by as_aux_lemma=>intro W r;have J:=r.cell g5 (λx=>x);have K:=r.cell g12 (λx=>x);have e2:=Y.out;go_simp;exact rfl) ?_
    |refine ah (by rfl) ?_);simp only[Act.put,aH])
   intro W5 k;have E:=aa (v.out.trans k);have l:=aa (B.out.kp k (λx=>x));clear k g5 g12;have y0:=l.out.ai;have y1:=l.out.aj;have y2:=l.out.aq;go_wp2_with fail;go_ret;exact⟨by rw[A.out];rfl,E.out⟩
end
section
open Go Go.RowKit Go.Shelf
open flowOwn (Th Tf)
def gC(g:Ga)(tb:Nat):List Value:=[.int .i64 g.c.ao,.int .i64 g.c.back,.int .i64 g.c.levels,.int .i64 g.c.aD,.int .i64 g.c.aB,.int .u64 g.c.bytes,.int .i64 g.c.share,.int .u64 g.c.ei,.int .u64 g.c.ax,.int .u64 g.c.aP,.slice none 0 0,.int .i64 (aE g.st),.int .u64 (cN g.st),.pointer (some ⟨tb,0,none⟩)]
def eh(w:World)(F:Nat->Prop)(gb:Nat)(g:Ga):Prop:=∃a tb,F=(λb=>b=gb\/a b)/\ag w gb (gC g tb) 233/\Tf w a tb 64 (e1 g.c.av g.st)/\¬a gb/\g.Ok
def eh.kp{T:Nat->Prop}{w w':World}{F:Nat->Prop}{gb:Nat}{g:Ga}(h:eh w F gb g)(k:Kp T w w')(a:∀b,F b->¬T b):eh w' F gb g:=by
 obtain⟨c,tb,rfl,d,ht,e,ok⟩:=h;exact⟨c,tb,rfl,d.kp k (a _ (.inl rfl)),ht.kp k (λb h=>a b (.inr h)),e,ok⟩
def eh.old{w w':World}{F:Nat->Prop}{gb:Nat}{g:Ga}(h:eh w F gb g)(k:Kp ae w w'):eh w' F gb g:=h.kp k (λ_ _ x=>x)
def eh.lt{w:World}{F:Nat->Prop}{gb:Nat}{g:Ga}(h:eh w F gb g){b:Nat}(a:F b):b<w.heap.size:=by
 obtain⟨d,tb,rfl,c,ht,e,ok⟩:=h;rcases a with rfl|a
 ·exact c.lt
 ·exact ht.lt a
def eh.ok{w:World}{F:Nat->Prop}{gb:Nat}{g:Ga}(h:eh w F gb g):g.Ok:=by
 obtain⟨_,_,_,_,_,_,ok⟩:=h;exact ok
def lG{w:World}{n:Nat->Prop}{tb:Nat}{g:Ga}(ht:Tf w n tb 64 (e1 g.c.av g.st))(ok:g.Ok)(id:Nat)(hid:id<4294967296):
    ∃p b m,(0<=g.at id->p=(g.x id).p/\b=(g.x id).b/\m=(g.x id).m)/\b<=m/\m<18446744073709551616/\∀W,Kp ae w W->Calls Tryz.prog 134 #[.pointer (some ⟨tb,0,none⟩),.int .u32 id] W λe w'=>e=.returned (.tuple #[.agg #[.int .i64 p,.int .u64 (b:Nat),.int .u64 (m:Nat)],.bool (decide (0<=g.at id))])/\Kp ae W w':=by
 have i:=o6 ok.len ok.Be.1 id;by_cases a:0<=g.at id
 ·have f:=i.1 a;have hm:=ok.own _ (ok.hc a);have d:(g.x id).m<18446744073709551616:=by
   obtain⟨j,o⟩:=ok.js a;have l:(g.at id).toNat<g.c.av.length:=by rw[<-ok.len];exact j
   have:=ok.y1 _ _ _ (Hn j) (Hn l);rw[o,this];exact(ok.xr.av _ (Ht l)).cap
  refine⟨_,_,_,λ_=>⟨rfl,rfl,rfl⟩,hm.2,d,λW k=> ?_⟩;rw[Hz a];exact flowOwn.y0 (ht.old k) id hid (g.x id) f
 ·have f:=i.2 (by show g.at id<0;omega);refine⟨0,0,0,λh=>absurd h a,Hm _,by omega,λW k=> ?_⟩;rw[HN a];exact flowOwn.xq (ht.old k) id hid f
def DX(g:Ga)(id n:Nat)(p:Int)(b m:Nat)(h:0<=g.at id->p=(g.x id).p/\b=(g.x id).b/\m=(g.x id).m):hX g.c.ei n (decide (0<=g.at id)) g.c.aB (aE g.st) g.c.bytes (cN g.st) b m=fO g id n:=by
 unfold hX fO;split
 ·rfl
 ·by_cases a:0<=g.at id
  ·obtain⟨_,rfl,rfl⟩:=h a;rw[Hz a,Hk (by simp),Hk (show ¬g.at id<0 by omega)]
  ·rw[HN a,Hl rfl,Hl (show g.at id<0 by omega)]
def DY{w:World}{F:Nat->Prop}{gb:Nat}{g:Ga}(h:eh w F gb g)(id n:Nat)(hid:id<4294967296):
    Calls Tryz.prog 156 #[.pointer (some ⟨gb,0,none⟩),.int .u32 id,.int .u64 n] w λe w'=>e=.returned (.int .i64 (fO g id n))/\Kp ae w w':=by
 obtain⟨i,tb,rfl,a,ht,j,ok⟩:=h;obtain⟨p,b,m,d,c,hm,f⟩:=lG ht ok id hid;rw[<-DX g id n p b m d];exact Bq _ _ _ _ _ id n p b m _ (a.a_) (a.bN) (a.eN) (a.ik) (a.hK) (a.hL) f ok.xt ok.xr.bytes c hm
def Br{w:World}{F:Nat->Prop}{gb:Nat}{g:Ga}(h:eh w F gb g):
    Calls Tryz.prog 111 #[.pointer (some ⟨gb,0,none⟩)] w λe w'=>e=.returned (.tuple #[.int .i64 (aE g.st),.int .u64 (cN g.st)])/\Kp ae w w':=by
 obtain⟨f,tb,rfl,a,ht,b,ok⟩:=h;have c:=a.ik;have d:=a.hK;generalize aE g.st=P at*;generalize cN g.st=S at*;clear a ht b ok;go_enter Tryz.func111,Tryz.ntmps111;go_wp2_with fail;go_region
 all_goals
    go_wp2_with fail;go_ret2;exact⟨rfl,(Kp.refl ae w).drew⟩
def DZ{w:World}{gb tb:Nat}(o c id n s:Nat)(p:Int)(b m:Nat)(is:Bool)(q:Int)(F:w.cell? ⟨gb,5,none⟩=some (.int .u64 o))(G:w.cell? ⟨gb,6,none⟩=some (.int .i64 s))(g:w.cell? ⟨gb,12,none⟩=some (.int .u64 c))(i:w.cell? ⟨gb,13,none⟩=some (.pointer (some ⟨tb,0,none⟩)))
    (HF:Calls Tryz.prog 156 #[.pointer (some ⟨gb,0,none⟩),.int .u32 id,.int .u64 n] w λe w'=>e=.returned (.int .i64 q)/\Kp ae w w')
    (H:∀W,Kp ae w W->Calls Tryz.prog 134 #[.pointer (some ⟨tb,0,none⟩),.int .u32 id] W λe w'=>e=.returned (.tuple #[.agg #[.int .i64 p,.int .u64 b,.int .u64 m],.bool is])/\Kp ae W w') (hle:c<=o) (X:o<18446744073709551616) (Y:s<=16):
    Calls Tryz.prog 129 #[.pointer (some ⟨gb,0,none⟩),.int .u32 id,.int .u64 n] w λe w'=>e=.returned (.int .i64 (if q≠0 then q else if ob (o-c) s<=b then 17 else 0))/\Kp ae w w':=by
 have HF:=aa HF;by_cases I:q=0
 ·subst I;obtain⟨R,t⟩:∃R,o-c=R:=⟨_,rfl⟩
  have Z:(o:Int)-c=(R:Int):=by omega
  have ac:Hid (IntKind.u64.wrap (R:Int)=(R:Int)):=by show _=_;rw[HO];omega
  have O:=aa (λW=>Bp R s (by omega) Y W);rw[t];obtain⟨T,P⟩:∃T,ob R s=T:=⟨_,rfl⟩
  rw[P]at O ⊢
  obtain⟨r,u⟩:∃r:Int,(if(0:Int)≠0 then(0:Int)else if T<=b then 17 else 0)=r:=⟨_,rfl⟩
  rw[u];have u:r=if T<=b then 17 else 0:=by rw[<-u,Hk (by simp)]
  clear t P;have Q:=aa u;clear u;go_enter Tryz.func129,Tryz.ntmps129;go_wp2_with fail;refine HF.out.mono ?_;rintro e w1 ⟨rfl,a⟩;have j:=aa a;have d5:=a.cell F (λx=>x);have d6:=a.cell G (λx=>x);have d12:=a.cell g (λx=>x);have d13:=a.cell i (λx=>x);have J:=aa (λW (k:Kp ae w1 W)=>H W (a.trans k));clear a F G g i H;go_wp2_with fail;refine(J.out _ (Kp.refl _ _)).mono ?_;rintro e v ⟨rfl,d⟩;have K:=aa (j.out.trans d);have S:=d.cell d5 (λx=>x);have U:=d.cell d6 (λx=>x);have z:=d.cell d12 (λx=>x);clear d d5 d6 d12 d13;go_wp2_with fail;have A:=aa (ag.new v [.int .i64 p,.int .u64 b,.int .u64 m] 230);have f:=(Kp.refl ae v).alloc (.cells #[.int .i64 p,.int .u64 b,.int .u64 m] 230);have L:=aa (K.out.trans f);have f5:=f.cell S (λx=>x);have f6:=f.cell U (λx=>x);have f12:=f.cell z (λx=>x);obtain⟨y,hy⟩:∃y,v.heap.size=y:=⟨_,rfl⟩
  rw[hy]at A ⊢
  change Code.wp _ _ _ _ (v.alloc (.cells #[.int .i64 p,.int .u64 b,.int .u64 m] 230));generalize v.alloc (.cells #[.int .i64 p,.int .u64 b,.int .u64 m] 230)=W3 at*;clear f S U z hy;have V:=A.out.aj;refine ar 20 (by kernel_rfl) (λ_ _ _ _ _ h=>h) ?_;simp only[aO]
  repeat((first
   |refine ay (by rfl) (by as_aux_lemma=>intro W B;have g0:=B.cell f5 (λx=>x);have g1:=B.cell f6 (λx=>x);have g2:=B.cell f12 (λx=>x);have g3:=B.cell V (λx=>x);have g4:=ac.out;go_simp;exact rfl) ?_
   |refine ah (by rfl) ?_
   |refine aR (by rfl) (by as_aux_lemma=>intro W;go_simp;exact⟨rfl,rfl⟩) (by intro W B;with_reducible first|exact(O.out W).mono λ_ _ h=>⟨h.1,h.2▸Kp.refl _ _⟩) ?_);simp only[Act.put,aH])
  intro W4 C;have D:=aa (L.out.trans C);clear C f5 f6 f12 V;by_cases E:T<=b
  ·have M:(T:Int)<=b:=by omega
   have N:decide (T<=b)=true:=by simpa using E
   have l:=aa (Q.out.trans (Hl E));go_wp2_with fail;go_ret;exact⟨by rw[l.out];rfl,D.out⟩
  ·have M:¬(T:Int)<=b:=by omega
   have N:decide (T<=b)=false:=by simpa using E
   have l:=aa (Q.out.trans (Hk E));go_wp2_with fail;go_ret;exact⟨by rw[l.out];rfl,D.out⟩
 ·rw[Hl I];have ad:(q != 0)=true:=by simpa using I
  clear F G g i H;go_enter Tryz.func129,Tryz.ntmps129;go_wp2_with fail;refine HF.out.mono ?_;rintro e w1 ⟨rfl,a⟩;have j:=aa a;clear a;go_wp2_with fail;go_ret;exact⟨rfl,j.out⟩
def FP{w:World}{F:Nat->Prop}{gb:Nat}{g:Ga}(h:eh w F gb g)(id n:Nat)(hid:id<4294967296):
    Calls Tryz.prog 129 #[.pointer (some ⟨gb,0,none⟩),.int .u32 id,.int .u64 n] w λe w'=>e=.returned (.int .i64 (bP g id n))/\Kp ae w w':=by
 have hF:=DY h id n hid;obtain⟨u,tb,rfl,f,ht,v,ok⟩:=h;obtain⟨p,b,m,l,o,hm,q⟩:=lG ht ok id hid;obtain⟨s,r⟩:∃s:Nat,g.c.share=s:=⟨g.c.share.toNat,by have:=ok.o5;omega⟩
 have i:g.c.share.toNat=s:=by omega
 have a:s<=16:=by have:=ok.o5;omega
 have k:=f.du;rw[r]at k
 refine(DZ _ _ id n s p b m _ (fO g id n) (f.bN) k (f.hK) (f.hL) hF q ok.xt ok.xr.bytes a).mono ?_;rintro e w' ⟨rfl,t⟩;refine⟨?_,t⟩;unfold bP;rw[i];by_cases d:fO g id n=0
 ·have j:0<=g.at id:=by
   by_cases ha:0<=g.at id
   ·exact ha
   ·exfalso;unfold fO at d;split at d
    ·omega
    ·rw[Hl (by omega)]at d;omega
  rw[(l j).2.1]
 ·rw[Hl d,Hl d]
def tu{g:Ga}(ok:g.Ok){id:Nat}(a:0<=g.at id)(x:Th):flowOwn.l9 id x (e1 g.c.av g.st)=e1 (g.put id x).c.av (g.put id x).st:=y3 ok.len ok.Be.1 id x a
def FQ{w:World}{q:Nat->Prop}{gb tb:Nat}{cs:List Value}{E:List (Nat×Th)}(v:Int)(f id n:Nat)(p:Int)(b m:Nat)(hid:id<4294967296)(hb:ag w gb cs 233)(A:cs[11]? =some (.int .i64 v))(B:cs[12]? =some (.int .u64 f))(C:cs[13]? =some (.pointer (some ⟨tb,0,none⟩)))(ht:Tf w q tb 64 E)(hn:¬q gb)(U:(id,(⟨p,b,m⟩:Th))∈E)
    (hp:0<=p/\p<=100000) (aD:0<=v/\v<=100000) (aE:b+n<18446744073709551616) (aF:f+n<18446744073709551616):
    Calls Tryz.prog 130 #[.pointer (some ⟨gb,0,none⟩),.int .u32 id,.int .u64 n] w λe w'=>e=.returned (.tuple #[])/\ag w' gb ((cs.set 11 (.int .i64 (v+1))).set 12 (.int .u64 ((f:Int)+n))) 233/\Tf w' q tb 64 (flowOwn.l9 id ⟨p+1,b+n,m⟩ E)/\Kp (λz=>z=gb\/q z) w w':=by
 have aG:=aa (λW (k:Kp ae w W)=>flowOwn.y0 (ht.old k) id hid ⟨p,b,m⟩ U);have D:=aa (λW (k:Tf W q tb 64 E)=>flowOwn.CZ k id hid ⟨p+1,b+n,m⟩ ⟨p,b,m⟩ U);have aA:=aa ht;have aB:=aa hb;have aC:=aa hn;have F:=aa A;have G:=aa B;have H:=aa C;clear ht hb hn U A B C;have aI:IntKind.u64.wrap ((b:Int)+n)=(b:Int)+n:=by rw[HO];omega
 have V:=aB.out.cell 13 H.out;go_enter Tryz.func130,Tryz.ntmps130;go_wp2_with fail;refine(aG.out w (Kp.refl _ _)).mono ?_;rintro e w1 ⟨rfl,g⟩;have X:=aa (aB.out.kp g (λx=>x));have Y:=aa (aA.out.old g);have I:=aa g;clear g V;go_wp2_with fail;refine(zm p b n (by omega) (by omega) _).mono ?_;rintro e J ⟨rfl,r⟩;have a:=aa ((ag.new w1 [.int .i64 p,.int .u64 b,.int .u64 m] 230).kp r (λx=>x));have d:=((Kp.refl ae w1).alloc (.cells #[.int .i64 p,.int .u64 b,.int .u64 m] 230)).trans r;have K:=aa (X.out.kp d (λx=>x));have Z:=aa (Y.out.old d);have ac:=aa (I.out.trans d);have ad:w1.heap.size<J.heap.size:=a.out.lt;have af:w.heap.size<=w1.heap.size:=I.out.size;clear r d;obtain⟨y,hy⟩:∃y,w1.heap.size=y:=⟨_,rfl⟩
 rw[hy]at a ad af ⊢
 have aJ:=a.out.ai;have y1:=a.out.aj;have yf:=λj=>a.out.fz j;clear hy;go_wp2_with fail;have L:y≠gb:=λe=>e3 a.out K.out (by decide) e;have M:¬q y:=λe=>by have:=aA.out.lt e;omega
 have s:=aa ((a.out.set 0 (.int .i64 (p+1))).set 1 (.int .u64 ((b:Int)+n)));have c:Kp (λz=>z=y) J ((J.setCell ⟨y,0,none⟩ (.int .i64 (p+1))).setCell ⟨y,1,none⟩ (.int .u64 ((b:Int)+n))):=((Kp.refl (λz=>z=y) J).set (p:=⟨y,0,none⟩) (.inl rfl) _).set (p:=⟨y,1,none⟩) (.inl rfl) _;have N:=aa (K.out.kp c (λe=>L e.symm));have ak:=aa (Z.out.kp c (λz hz e=>M (by rw[<-e];exact hz)));have al:Hid (Kp ae w _):=aa (ac.out.then c (λz hz e=>by omega));clear c aJ y1 yf;generalize (J.setCell ⟨y,0,none⟩ (.int .i64 (p+1))).setCell ⟨y,1,none⟩ (.int .u64 ((b:Int)+n))=W3 at*;have z0:=s.out.ai;have z1:=s.out.aj;have z2:=s.out.aq;have O:=N.out.cell 13 H.out;refine ar 6 (by kernel_rfl) (λ_ _ _ _ _ h=>h) ?_;simp only[aO]
 repeat((first
    |refine ay (by rfl) (by as_aux_lemma=>intro W S;have e0:=S.cell z0 (λx=>x);have e1:=S.cell z1 (λx=>x);have e2:=S.cell z2 (λx=>x);have aK:=S.cell O (λx=>x);go_simp;exact rfl) ?_
    |refine ah (by rfl) ?_);simp only[Act.put,aH])
 intro W4 i;have an:=aa (N.out.kp i (λx=>x));have ao:=aa (ak.out.old i);have au:=aa (al.out.trans i);clear i z0 z1 z2 O;go_wp2_with fail;refine(D.out W4 ao.out).mono ?_;rintro e w5 ⟨rfl,P,t⟩;have u:=aa (an.out.kp t aC.out);have av:=aa P;have aw:Hid (Kp q w w5):=aa ((au.out.mono (λ_ _ x=>x.elim)).trans t);clear P t;have Q:=u.out.cell 11 F.out;have R:=u.out.cell 12 G.out;go_wp2_with fail;refine(zm v f n (by omega) (by omega) _).mono ?_;rintro e T ⟨rfl,l⟩;have o:=aa (u.out.kp l (λx=>x));have ax:=aa (av.out.old l);have az:Hid (Kp q w T):=aa (aw.out.trans (l.mono (λ_ _ x=>x.elim)));clear l Q R;have Q:=o.out.cell 11 F.out;have R:=o.out.cell 12 G.out;have bf:=λj=>o.out.fz j;go_wp2_with fail;go_end0;have c:Kp (λz=>z=gb) T ((T.setCell ⟨gb,11,none⟩ (.int .i64 (v+1))).setCell ⟨gb,12,none⟩ (.int .u64 ((f:Int)+n))):=((Kp.refl (λz=>z=gb) T).set (p:=⟨gb,11,none⟩) (.inl rfl) _).set (p:=⟨gb,12,none⟩) (.inl rfl) _;refine⟨rfl,(o.out.set 11 _).set 12 _,(ax.out.kp c (λz hz e=>aC.out (by rw[<-e];exact hz))),?_⟩;exact(az.out.mono (λz _ hz=>.inr hz)).trans (c.mono (λz _ hz=>.inl hz))
def FR{w:World}{F:Nat->Prop}{gb:Nat}{g:Ga}(h:eh w F gb g)(id n:Nat)(hid:id<4294967296)(d:0<=g.at id)(a:(g.lay id n).Ok):
    Calls Tryz.prog 130 #[.pointer (some ⟨gb,0,none⟩),.int .u32 id,.int .u64 n] w λe w'=>e=.returned (.tuple #[])/\eh w' F gb (g.lay id n)/\Kp F w w':=by
 obtain⟨z,tb,rfl,A,ht,q,ok⟩:=h;have f:=(o6 ok.len ok.Be.1 id).1 d;have j:=tu ok d ⟨(g.x id).p+1,(g.x id).b+n,(g.x id).m⟩;have k:=ok.own _ (ok.hc d);have B:=l8 (λy hy=>(ok.own y hy).1) (ok.hc d);have C:=fP (ok.hc d);obtain⟨r,s⟩:=ok.js d;have l:aE (g.lay id n).st=aE g.st+1:=by
  show aE (g.st.set _ _)=_;rw[hD _ _ _ r,<-s];simp only;omega
 have i:cN (g.lay id n).st=cN g.st+n:=by
  have:=mT g.st (g.at id).toNat ⟨(g.x id).p+1,(g.x id).b+n,(g.x id).m⟩ r;rw[<-s]at this
  show cN (g.st.set _ _)=_;simp only at this;omega
 have o:cN g.st+n<18446744073709551616:=by
  have t:=a.xt;have u:=a.xr.bytes;rw[i]at t
  have D:(g.lay id n).c=g.c:=rfl;rw[D]at t u
  unfold hO at u;omega
 have E:aE g.st<=4096:=by have:=ok.DM;have:=ok.o5;omega
 refine(FQ (aE g.st) (cN g.st) id n (g.x id).p (g.x id).b (g.x id).m hid A rfl rfl rfl ht q f ⟨k.1,by omega⟩ ⟨by omega,by omega⟩ (by omega) o).mono ?_;rintro e w' ⟨he,G,v,H⟩;refine⟨he,⟨z,tb,rfl,?_,by rw[j]at v;exact v,q,a⟩,H⟩;have e:gC (g.lay id n) tb=(((gC g tb).set 11 (.int .i64 (aE g.st+1))).set 12 (.int .u64 ((cN g.st:Int)+n))):=by
  unfold gC;rw[l,i];simp[Ga.lay,Ga.put]
 rw[e];exact G
def qO{g:Ga}{id n:Nat}(h:fO g id n=0):n≠0/\n<=g.c.ei/\0<=g.at id/\aE g.st<g.c.aB/\n<=g.c.bytes-cN g.st/\n<=(g.x id).m-(g.x id).b:=by
 unfold fO at h;split at h
 ·omega
 ·split at h
  ·omega
  ·split at h
   ·omega
   ·split at h
    ·omega
    ·split at h
     ·omega
     ·refine⟨by omega,by omega,by omega,by omega,by omega,by omega⟩
def kf{g:Ga}{id n:Nat}(h:bP g id n=0):fO g id n=0:=by
 unfold bP at h;split at h
 ·exact h
 ·rename_i a;exact Classical.byContradiction λb=>a b
def kI{g:Ga}(ok:g.Ok){id n:Nat}(h:fO g id n=0):0<=g.at id/\(g.lay id n).Ok:=by
 obtain⟨d,e,a,f,i,j⟩:=qO h;have k:=ok.own _ (ok.hc a);have l:=ok.xt;have o:=fP (ok.hc a);refine⟨a,ok.put a _ rfl (by show 0<=(g.x id).p+1;omega) (by show(g.x id).b+n<=(g.x id).m;omega) (by show cN g.st-(g.x id).b+((g.x id).b+n)<=g.c.bytes;omega) (by show aE g.st-(g.x id).p+((g.x id).p+1)<=g.c.aB;omega)⟩
def mW{g:Ga}{id n:Nat}(h:jM g id n=0):0<=g.at id/\(g.x id).p≠0/\n<=(g.x id).b:=by
 unfold jM at h;split at h
 ·omega
 ·split at h
  ·omega
  ·rename_i c a;refine⟨by omega,λe=>a (.inl e),by omega⟩
def v7{g:Ga}(ok:g.Ok){id n:Nat}(h:jM g id n=0):(g.put id ⟨(g.x id).p-1,(g.x id).b-n,(g.x id).m⟩).Ok:=by
 obtain⟨a,d,e⟩:=mW h;have f:=ok.own _ (ok.hc a);have i:=ok.xt;have hp:=ok.DM;exact ok.put a _ rfl (by show 0<=(g.x id).p-1;omega) (by show(g.x id).b-n<=(g.x id).m;omega) (by show cN g.st-(g.x id).b+((g.x id).b-n)<=g.c.bytes;have:=fP (ok.hc a);omega) (by show aE g.st-(g.x id).p+((g.x id).p-1)<=g.c.aB;omega)
def zq{g:Ga}(ok:g.Ok)(id n:Nat):(fq g id n).Ok:=by
 unfold fq;split
 ·rename_i h;exact v7 ok h
 ·exact ok
def FT{P:World->Prop}{w:World}{gb:Nat}(id n:Nat)(r:Int)(c:Calls Tryz.prog 129 #[.pointer (some ⟨gb,0,none⟩),.int .u32 id,.int .u64 n] w λe w'=>e=.returned (.int .i64 r)/\Kp ae w w')
    (g:r=0->∀W,Kp ae w W->Calls Tryz.prog 130 #[.pointer (some ⟨gb,0,none⟩),.int .u32 id,.int .u64 n] W λe w'=>e=.returned (.tuple #[])/\P w') (d:r≠0->∀W,Kp ae w W->P W):
    Calls Tryz.prog 105 #[.pointer (some ⟨gb,0,none⟩),.int .u32 id,.int .u64 n] w λe w'=>e=.returned (.int .i64 r)/\P w':=by
 have c:=aa c;by_cases f:r=0
 ·have h:=aa (g f);clear d g;subst f;go_enter Tryz.func105,Tryz.ntmps105;go_wp2_with fail;refine c.out.mono ?_;rintro e w1 ⟨rfl,a⟩;go_wp2_with fail;refine(h.out w1 a).mono ?_;rintro e l ⟨rfl,b⟩;have i:=aa b;clear a b;go_wp2_with fail;go_ret;exact⟨rfl,i.out⟩
 ·have k:(r==0)=false:=by rw[HM];exact f
  have d:=aa (d f);clear g;go_enter Tryz.func105,Tryz.ntmps105;go_wp2_with fail;refine c.out.mono ?_;rintro e w1 ⟨rfl,a⟩;have j:=aa (d.out w1 a);clear a;go_wp2_with fail;go_ret;exact⟨rfl,j.out⟩
def FU{w:World}{F:Nat->Prop}{gb:Nat}{g:Ga}(h:eh w F gb g)(id n:Nat)(hid:id<4294967296):
    Calls Tryz.prog 105 #[.pointer (some ⟨gb,0,none⟩),.int .u32 id,.int .u64 n] w λe w'=>e=.returned (.int .i64 (bP g id n))/\eh w' F gb (iR g id n)/\Kp F w w':=by
 refine FT (P:=λw'=>eh w' F gb (iR g id n)/\Kp F w w') id n _ (FP h id n hid) (λd W k=> ?_) (λd W k=> ?_)
 ·obtain⟨i,j⟩:=kI h.ok (kf d);have f:iR g id n=g.lay id n:=by unfold iR;rw[Hl d]
  rw[f];exact(FR (h.old k) id n hid i j).mono λe w' ⟨a,b,c⟩=>⟨a,b,(k.mono (λ_ _ x=>x.elim)).trans c⟩
 ·have f:iR g id n=g:=by unfold iR;rw[Hk d]
  rw[f];exact⟨h.old k,k.mono (λ_ _ x=>x.elim)⟩
def Bs{w:World}{gb tb:Nat}(id n:Nat)(p:Int)(b m:Nat)(is:Bool)(g:w.cell? ⟨gb,13,none⟩=some (.pointer (some ⟨tb,0,none⟩)))
    (d:∀W,Kp ae w W->Calls Tryz.prog 134 #[.pointer (some ⟨tb,0,none⟩),.int .u32 id] W λe w'=>e=.returned (.tuple #[.agg #[.int .i64 p,.int .u64 b,.int .u64 m],.bool is])/\Kp ae W w') (f:is=false\/p=0\/b<n):
    Calls Tryz.prog 108 #[.pointer (some ⟨gb,0,none⟩),.int .u32 id,.int .u64 n] w λe w'=>e=.returned (.int .i64 (if is=false then 13 else 9))/\Kp ae w w':=by
 cases is with
 |false=>
  rw[Hl rfl];clear f;have d:=aa d;go_enter Tryz.func108,Tryz.ntmps108;go_wp2_with fail;refine(d.out w (Kp.refl _ _)).mono ?_;rintro e w1 ⟨rfl,a⟩;have c:=aa a;clear a;go_wp2_with fail;go_ret;exact⟨rfl,c.out.alloc _⟩
 |true=>
  rw[Hk (by simp)];by_cases hp:p=0
  ·subst hp;clear f;have d:=aa d;go_enter Tryz.func108,Tryz.ntmps108;go_wp2_with fail;refine(d.out w (Kp.refl _ _)).mono ?_;rintro e w1 ⟨rfl,a⟩;have c:=aa a;clear a;go_wp2_with fail;go_ret;exact⟨rfl,c.out.alloc _⟩
  ·have i:(p==0)=false:=by rw[HM];exact hp
   have j:b<n:=by rcases f with h|h|h;cases h;exact absurd h hp;exact h
   have k:(b:Int)<n:=by omega
   clear f hp;have d:=aa d;go_enter Tryz.func108,Tryz.ntmps108;go_wp2_with fail;refine(d.out w (Kp.refl _ _)).mono ?_;rintro e w1 ⟨rfl,a⟩;have c:=aa a;clear a;go_wp2_with fail;go_ret;exact⟨rfl,c.out.alloc _⟩
def D1{w:World}{q:Nat->Prop}{gb tb:Nat}{cs:List Value}{E:List (Nat×Th)}(A:Int)(f id n:Nat)(p:Int)(b m:Nat)(hid:id<4294967296)(hb:ag w gb cs 233)(B:cs[11]? =some (.int .i64 A))(C:cs[12]? =some (.int .u64 f))(D:cs[13]? =some (.pointer (some ⟨tb,0,none⟩)))(ht:Tf w q tb 64 E)(hn:¬q gb)(V:(id,(⟨p,b,m⟩:Th))∈E)
    (hp:1<=p/\p<=100000) (aE:1<=A/\A<=100000) (aF:n<=b) (aG:b<18446744073709551616) (aI:n<=f) (aJ:f<18446744073709551616):
    Calls Tryz.prog 108 #[.pointer (some ⟨gb,0,none⟩),.int .u32 id,.int .u64 n] w λe w'=>e=.returned (.int .i64 0)/\ag w' gb ((cs.set 11 (.int .i64 (A-1))).set 12 (.int .u64 ((f:Int)-n))) 233/\Tf w' q tb 64 (flowOwn.l9 id ⟨p-1,b-n,m⟩ E)/\Kp (λz=>z=gb\/q z) w w':=by
 have aK:=aa (λW (k:Kp ae w W)=>flowOwn.y0 (ht.old k) id hid ⟨p,b,m⟩ V);have r:=aa (λW (k:Tf W q tb 64 E)=>flowOwn.CZ k id hid ⟨p-1,b-n,m⟩ ⟨p,b,m⟩ V);have F:((b-n:Nat):Int)=(b:Int)-n:=by omega
 simp only[flowOwn.en,F]at r;have aB:=aa ht;have aC:=aa hb;have aD:=aa hn;have G:=aa B;have H:=aa C;have I:=aa D;clear ht hb hn V B C D F;have aL:IntKind.u64.wrap ((b:Int)-n)=(b:Int)-n:=by rw[HO];omega
 have X:=aC.out.cell 13 I.out;have aM:(p==0)=false:=by rw[HM];omega
 have aN:¬(b:Int)<n:=by omega
 go_enter Tryz.func108,Tryz.ntmps108;go_wp2_with fail;refine(aK.out w (Kp.refl _ _)).mono ?_;rintro e w1 ⟨rfl,g⟩;have Y:=aa (aC.out.kp g (λx=>x));have Z:=aa (aB.out.old g);have J:=aa g;clear g X;go_wp2_with fail;refine(zn p b n (by omega) (by omega) (by omega) _).mono ?_;rintro e K ⟨rfl,s⟩;have a:=aa ((ag.new w1 [.int .i64 p,.int .u64 b,.int .u64 m] 230).kp s (λx=>x));have d:=((Kp.refl ae w1).alloc (.cells #[.int .i64 p,.int .u64 b,.int .u64 m] 230)).trans s;have L:=aa (Y.out.kp d (λx=>x));have ac:=aa (Z.out.old d);have ad:=aa (J.out.trans d);have af:w1.heap.size<K.heap.size:=a.out.lt;have ak:w.heap.size<=w1.heap.size:=J.out.size;clear s d;obtain⟨y,hy⟩:∃y,w1.heap.size=y:=⟨_,rfl⟩
 rw[hy]at a af ak ⊢
 have aP:=a.out.ai;have y1:=a.out.aj;have yf:=λj=>a.out.fz j;clear hy;go_wp2_with fail;have M:y≠gb:=λe=>e3 a.out L.out (by decide) e;have N:¬q y:=λe=>by have:=aB.out.lt e;omega
 have t:=aa ((a.out.set 0 (.int .i64 (p-1))).set 1 (.int .u64 ((b:Int)-n)));have c:Kp (λz=>z=y) K ((K.setCell ⟨y,0,none⟩ (.int .i64 (p-1))).setCell ⟨y,1,none⟩ (.int .u64 ((b:Int)-n))):=((Kp.refl (λz=>z=y) K).set (p:=⟨y,0,none⟩) (.inl rfl) _).set (p:=⟨y,1,none⟩) (.inl rfl) _;have O:=aa (L.out.kp c (λe=>M e.symm));have al:=aa (ac.out.kp c (λz hz e=>N (by rw[<-e];exact hz)));have an:Hid (Kp ae w _):=aa (ad.out.then c (λz hz e=>by omega));clear c aP y1 yf;generalize (K.setCell ⟨y,0,none⟩ (.int .i64 (p-1))).setCell ⟨y,1,none⟩ (.int .u64 ((b:Int)-n))=W3 at*;have z0:=t.out.ai;have z1:=t.out.aj;have z2:=t.out.aq;have P:=O.out.cell 13 I.out;refine ar 6 (by kernel_rfl) (λ_ _ _ _ _ h=>h) ?_;simp only[aO]
 repeat((first
    |refine ay (by rfl) (by as_aux_lemma=>intro W T;have e0:=T.cell z0 (λx=>x);have e1:=T.cell z1 (λx=>x);have e2:=T.cell z2 (λx=>x);have aQ:=T.cell P (λx=>x);go_simp;exact rfl) ?_
    |refine ah (by rfl) ?_);simp only[Act.put,aH])
 intro W4 i;have ao:=aa (O.out.kp i (λx=>x));have au:=aa (al.out.old i);have av:=aa (an.out.trans i);clear i z0 z1 z2 P;go_wp2_with fail;refine(r.out W4 au.out).mono ?_;rintro e w5 ⟨rfl,Q,u⟩;have v:=aa (ao.out.kp u aD.out);have aw:=aa Q;have ax:Hid (Kp q w w5):=aa ((av.out.mono (λ_ _ x=>x.elim)).trans u);clear Q u;have R:=v.out.cell 11 G.out;have S:=v.out.cell 12 H.out;go_wp2_with fail;refine(zn A f n (by omega) (by omega) (by omega) _).mono ?_;rintro e U ⟨rfl,l⟩;have o:=aa (v.out.kp l (λx=>x));have az:=aa (aw.out.old l);have aA:Hid (Kp q w U):=aa (ax.out.trans (l.mono (λ_ _ x=>x.elim)));clear l R S;have R:=o.out.cell 11 G.out;have S:=o.out.cell 12 H.out;have bf:=λj=>o.out.fz j;go_wp2_with fail;go_ret;have c:Kp (λz=>z=gb) U ((U.setCell ⟨gb,11,none⟩ (.int .i64 (A-1))).setCell ⟨gb,12,none⟩ (.int .u64 ((f:Int)-n))):=((Kp.refl (λz=>z=gb) U).set (p:=⟨gb,11,none⟩) (.inl rfl) _).set (p:=⟨gb,12,none⟩) (.inl rfl) _;refine⟨rfl,(o.out.set 11 _).set 12 _,(az.out.kp c (λz hz e=>aD.out (by rw[<-e];exact hz))),?_⟩;exact(aA.out.mono (λz _ hz=>.inr hz)).trans (c.mono (λz _ hz=>.inl hz))
def FV{w:World}{F:Nat->Prop}{gb:Nat}{g:Ga}(h:eh w F gb g)(id n:Nat)(hid:id<4294967296):
    Calls Tryz.prog 108 #[.pointer (some ⟨gb,0,none⟩),.int .u32 id,.int .u64 n] w λe w'=>e=.returned (.int .i64 (jM g id n))/\eh w' F gb (fq g id n)/\Kp F w w':=by
 obtain⟨u,tb,rfl,f,ht,i,ok⟩:=h;by_cases a:jM g id n=0
 ·obtain⟨c,P,B⟩:=mW a;have j:=v7 ok a;have k:fq g id n=g.put id ⟨(g.x id).p-1,(g.x id).b-n,(g.x id).m⟩:=by unfold fq;rw[Hl a]
  rw[k,a];have d:=(o6 ok.len ok.Be.1 id).1 c;have l:=tu ok c ⟨(g.x id).p-1,(g.x id).b-n,(g.x id).m⟩;have C:=ok.own _ (ok.hc c);have D:=l8 (λy hy=>(ok.own y hy).1) (ok.hc c);have E:=fP (ok.hc c);obtain⟨v,z⟩:=ok.js c;have o:aE (g.put id ⟨(g.x id).p-1,(g.x id).b-n,(g.x id).m⟩).st=aE g.st-1:=by
   show aE (g.st.set _ _)=_;rw[hD _ _ _ v,<-z];simp only;omega
  have G:cN (g.put id ⟨(g.x id).p-1,(g.x id).b-n,(g.x id).m⟩).st+n=cN g.st:=by
   have:=mT g.st (g.at id).toNat ⟨(g.x id).p-1,(g.x id).b-n,(g.x id).m⟩ v;rw[<-z]at this
   show cN (g.st.set _ _)+n=_;simp only at this;omega
  have H:aE g.st<=4096:=by have:=ok.DM;have:=ok.o5;omega
  have q:=ok.xr.bytes;have I:=ok.xt;unfold hO at q;refine(D1 (aE g.st) (cN g.st) id n (g.x id).p (g.x id).b (g.x id).m hid f rfl rfl rfl ht i d ⟨by omega,by omega⟩ ⟨by omega,by omega⟩ B (by omega) (by omega) (by omega)).mono ?_;rintro e w' ⟨he,J,A,K⟩;refine⟨he,⟨u,tb,rfl,?_,by rw[l]at A;exact A,i,j⟩,K⟩;have e:gC (g.put id ⟨(g.x id).p-1,(g.x id).b-n,(g.x id).m⟩) tb=(((gC g tb).set 11 (.int .i64 (aE g.st-1))).set 12 (.int .u64 ((cN g.st:Int)-n))):=by
   unfold gC;have L:((cN (g.put id ⟨(g.x id).p-1,(g.x id).b-n,(g.x id).m⟩).st:Nat):Int)=(cN g.st:Int)-n:=by omega
   rw[o,L];simp[Ga.put]
  rw[e];exact J
 ·have k:fq g id n=g:=by unfold fq;rw[Hk a]
  rw[k];obtain⟨p,b,m,M,N,hm,O⟩:=lG ht ok id hid;have r:decide (0<=g.at id)=false\/p=0\/b<n:=by
   by_cases ha:0<=g.at id
   ·right;obtain⟨rfl,rfl,_⟩:=M ha;unfold jM at a;rw[Hk (by omega)]at a
    exact Classical.byContradiction λs=>a (Hk s)
   ·left;exact HN ha
  have he:(if decide (0<=g.at id)=false then(13:Int)else 9)=jM g id n:=by
   unfold jM;by_cases ha:0<=g.at id
   ·rw[Hz ha,Hk (by simp),Hk (show ¬g.at id<0 by omega),Hl];unfold jM at a;rw[Hk (by omega)]at a
    exact Classical.byContradiction λs=>a (Hk s)
   ·rw[HN ha,Hl rfl,Hl (show g.at id<0 by omega)]
  rw[<-he];refine(Bs id n p b m _ (f.hL) O r).mono ?_;rintro e w' ⟨he,t⟩;exact⟨he,⟨u,tb,rfl,f.kp t (λx=>x),ht.old t,i,ok⟩,t.mono (λ_ _ x=>x.elim)⟩
end
end Go.Proofs.YtincjochpkdnfaaGreatDoor
