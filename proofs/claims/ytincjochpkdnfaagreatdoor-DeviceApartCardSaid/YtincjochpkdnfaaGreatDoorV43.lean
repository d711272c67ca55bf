/- DeviceApart: lanes in plain Lean; two devices in memory (layer 37). -/
import Derived.Test.YtincjochpkdnfaaGreatDoorV40
import Derived.Stop.BytesEq
set_option linter.all false
set_option maxHeartbeats 16000000
set_option maxRecDepth 100000
namespace Go.Proofs.YtincjochpkdnfaaGreatDoor
section
open Go Go.RowKit Go.Shelf
structure oi (l:ct):Prop where
 q:l.2.1=[]
 s:aU l.1.s.bk=[]
def oi.nU{l:ct}(h:oi l):(aM l.1.s.bk).2=false:=by unfold aM;rw[h.s];rfl
def oi.step{l:ct}(h:oi l)(batch:Nat):(fX batch l).1=[]/\oi (fX batch l).2:=by
 have b:l.2.1.take batch=[]:=by rw[h.q];exact List.take_nil
 have a:cm l.1=(([],18),l.1):=by unfold cm;rw[Hl h.nU]
 have c:cF batch l.1=([],l.1):=by
  cases batch with
  |zero=>rfl
  |succ n=>rw[km (by rw[a];show ¬(18:Int)=0;decide),a]
 have d:fX batch l=([],l.1,l.2.1.drop batch,l.2.2):=by
  show((cF batch (ep l.1 l.2.2 (l.2.1.take batch)).1).1,(cF batch (ep l.1 l.2.2 (l.2.1.take batch)).1).2,l.2.1.drop batch,(ep l.1 l.2.2 (l.2.1.take batch)).2)=_;rw[b];show((cF batch l.1).1,(cF batch l.1).2,l.2.1.drop batch,l.2.2)=_;rw[c]
 rw[d];exact⟨rfl,⟨by show l.2.1.drop batch=[];rw[h.q];exact List.drop_nil,h.s⟩⟩
def oi.tick{l:ct}(h:oi l)(t:Nat):oi (mJ t l):=⟨h.q,h.s⟩
def h_.more{N:Nat}{l:ct}(h:h_ N l):h_ (N+64) l:=⟨by have:=h.bk;omega,by have:=h.num;omega,h.q,h.rf⟩
def h_.step{N:Nat}{l:ct}(h:h_ N l){batch:Nat}(b:batch<=64):h_ (N+64) (fX batch l).2:=by
 have c:=Ah batch l;exact⟨by have:=h.bk;omega,by have:=h.num;omega,λx a=>h.q x (List.mem_of_mem_drop a),pV _ _ h.rf⟩
def h_.tick{N:Nat}{l:ct}(h:h_ N l)(t:Nat):h_ (N+64) (mJ t l):=⟨by have:=h.bk;show cq l.1.s.bk<=_;omega,by have:=h.num;show l.1.num<=_;omega,h.q,h.rf⟩
def ld(s:ByteArray)(l:ct):ct:=(l.1,l.2.1++[s],l.2.2)
def h_.put{N:Nat}{l:ct}(h:h_ N l){s:ByteArray}(b:s.size<=100000):h_ (N+64) (ld s l):=by
 refine⟨by have:=h.bk;show cq l.1.s.bk<=_;omega,by have:=h.num;show l.1.num<=_;omega,λx a=> ?_,h.rf⟩;rcases Hu.1 (show x∈l.2.1++[s]from a)with a|a
 ·exact h.q x a
 ·rw[H0.1 a];exact b
structure iE (N p:Nat) (La Lb:List ct):Prop where
 len:La.length=Lb.length
 eq:La[p]? =Lb[p]?
 ba:∀l∈La,h_ N l
 bb:∀l∈Lb,h_ N l
 AJ:∀j l,j≠p->Lb[j]? =some l->oi l
def iE.more{N p:Nat}{b c:List ct}(h:iE N p b c):iE (N+64) p b c:=⟨h.len,h.eq,λl a=>(h.ba l a).more,λl a=>(h.bb l a).more,h.AJ⟩
def iE.map{N p:Nat}{c b:List ct}(h:iE N p c b)(f:ct->ct)(d:∀l,h_ N l->h_ (N+64) (f l))(e:∀l,oi l->oi (f l)):iE (N+64) p (c.map f) (b.map f):=by
 refine⟨by rw[Hq,Hq,h.len],by rw[H2,H2,h.eq],λl a=> ?_,λl a=> ?_,λj l g a=> ?_⟩
 ·obtain⟨m,hm,rfl⟩:=Hw.1 a;exact d m (h.ba m hm)
 ·obtain⟨m,hm,rfl⟩:=Hw.1 a;exact d m (h.bb m hm)
 ·rw[H2]at a
  cases hm:b[j]? with
  |none=>rw[hm]at a;cases a
  |some m=>rw[hm]at a;injection a with a;rw[<-a];exact e m (h.AJ j m g hm)
def iE.tick{N p:Nat}{a b:List ct}(h:iE N p a b)(t:Nat):iE (N+64) p (a.map (mJ t)) (b.map (mJ t)):=h.map _ (λ_ g=>g.tick t) (λ_ g=>g.tick t)
def iE.step{N p:Nat}{a b:List ct}(h:iE N p a b){batch:Nat}(c:batch<=64):iE (N+64) p (dD batch a) (dD batch b):=h.map _ (λ_ g=>g.step c) (λ_ g=>(g.step batch).2)
def nC{l:List ct}{i:Nat}{a x:ct}(h:x∈l.set i a):x∈l\/x=a:=Il h
def iE.ld{N p:Nat}{b c:List ct}(h:iE N p b c){s:ByteArray}(d:s.size<=100000){i:Nat}{m:ct}(hm:b[i]? =some m)(hi:i≠p):iE (N+64) p (b.set i (Go.Proofs.YtincjochpkdnfaaGreatDoor.ld s m)) c:=by
 refine⟨by rw[Hr,h.len],by rw[HL hi,h.eq],λl a=> ?_,λl a=>(h.bb l a).more,h.AJ⟩;rcases nC a with a|rfl
 ·exact(h.ba l a).more
 ·exact(h.ba m (IV hm)).put d
def iE.put{N p:Nat}{b c:List ct}(h:iE N p b c){s:ByteArray}(d:s.size<=100000){m:ct}(hm:b[p]? =some m):iE (N+64) p (b.set p (Go.Proofs.YtincjochpkdnfaaGreatDoor.ld s m)) (c.set p (Go.Proofs.YtincjochpkdnfaaGreatDoor.ld s m)):=by
 have hp:p<b.length:=(HD.1 hm).1;refine⟨by rw[Hr,Hr,h.len],by rw[H8 hp,H8 (by rw[<-h.len];exact hp)],λl a=> ?_,λl a=> ?_,λj l f a=> ?_⟩
 ·rcases nC a with a|rfl
  ·exact(h.ba l a).more
  ·exact(h.ba m (IV hm)).put d
 ·rcases nC a with a|rfl
  ·exact(h.bb l a).more
  ·exact(h.ba m (IV hm)).put d
 ·rw[HL (λe=>f e.symm)]at a
  exact h.AJ j l f a
def cB(p:Nat):List (Nat×ByteArray)->List ByteArray
 | []=>[]
 |o::r=>if o.1=p then o.2::cB p r else cB p r
def h7(p:Nat)(o:Nat×ByteArray)(r:List (Nat×ByteArray)):cB p (o::r)=if o.1=p then o.2::cB p r else cB p r:=rfl
def kV(p:Nat):∀a b:List (Nat×ByteArray),cB p (a++b)=cB p a++cB p b
 | [],_=>rfl
 |o::r,b=>by
  rw[IT,h7,h7,kV p r b];split<;>rfl
def nD(p j:Nat):∀l:List ByteArray,cB p (l.map λs=>(j,s))=if j=p then l else[]
 | []=>by split<;>rfl
 |a::r=>by
  rw[HA,h7,nD p j r];by_cases e:j=p
  ·rw[Hl e,Hl e,Hl e]
  ·rw[Hk e,Hk e,Hk e]
def lT(b p:Nat):∀(L:List ct) (j:Nat),j<=p->cB p (b4 b j L)=match L[p-j]? with|none=>[]|some l=>(fX b l).1
 | [],j,_=>rfl
 |l::r,j,c=>by
  show cB p (_++b4 b (j+1) r)=_;rw[kV,nD];by_cases e:j=p
  ·subst e;have key:∀(L:List ct) (k:Nat),j<k->cB j (b4 b k L)=[]:=λL=>by
    induction L with
    |nil=>intro k _;rfl
    |cons x y a=>
     intro k d;show cB j (_++b4 b (k+1) y)=_;rw[kV,nD,Hk (by omega),a (k+1) (by omega)];rfl
   rw[Hl rfl,key r (j+1) (by omega),Jn,HH];rfl
  ·rw[Hk e,lT b p r (j+1) (by omega),show p-j=(p-(j+1))+1 by omega,IX];rfl
def p4(b p:Nat):∀(L:List ct) (j:Nat),(∀i l,L[i]? =some l->j+i≠p->(fX b l).1=[])->∀o∈b4 b j L,o.1=p
 | [],_,_,o,a=>by cases a
 |l::r,j,h,o,a=>by
  rcases Hu.1 (show o∈(_++b4 b (j+1) r)from a)with a|a
  ·obtain⟨s,c,rfl⟩:=Hw.1 a;by_cases e:j=p
   ·exact e
   ·rw[h 0 l rfl (by omega)]at c;cases c
  ·exact p4 b p r (j+1) (λi l d hi=>h (i+1) l (by rw[IX];exact d) (by omega)) o a
def ry(p:Nat):∀O:List (Nat×ByteArray),(∀o∈O,o.1=p)->(cB p O).length=O.length
 | [],_=>rfl
 |o::r,h=>by
  rw[h7,Hl (h o (HX ..)),Hs,Hs,ry p r (λx a=>h x (Iz _ a))]
def iE.out{N p:Nat}{c a:List ct}(h:iE N p c a)(b:Nat):cB p (b4 b 0 c)=cB p (b4 b 0 a)/\(cB p (b4 b 0 a)).length=(b4 b 0 a).length:=by
 refine⟨by rw[lT b p c 0 (Hv _),lT b p a 0 (Hv _),J6,h.eq],ry p _ (p4 b p a 0 λi l d hi=> ?_)⟩;exact((h.AJ i l (by omega) d).step b).1
def rz(p:Nat):∀O:List (Nat×ByteArray),(cB p O).length<=O.length
 | []=>Hm _
 |o::r=>by
  rw[h7];have:=rz p r;split
  ·rw[Hs,Hs];omega
  ·rw[Hs];omega
def vH{l:List Rt}{T k:Tr}(h:cr l T)(n:cr l k)(c:∀r∈l,dt r.1)(d:(l.map (·.1)).Nodup)(a:Nat):T.az a none=k.az a none:=by
 obtain⟨hw,he⟩:=jD h c d;obtain⟨i,b⟩:=jD n c d;by_cases j:∃e∈T.br,b3 e.1 a=true
 ·obtain⟨m,m1,m2,m3⟩:=ub a _ T.br rfl j;rw[Tr.ji hw m1 m2 m3,Tr.ji i ((b m).2 ((he m).1 m1)) m2 (λe f g=>m3 e ((he e).2 ((b e).1 f)) g)]
 ·rw[Tr.gx (λe f=>by
   cases g:b3 e.1 a with
   |false=>rfl
   |true=>exact absurd ⟨e,f,g⟩ j),Tr.gx (λe f=>by
   cases g:b3 e.1 a with
   |false=>rfl
   |true=>exact absurd ⟨e,(he e).2 ((b e).1 f),g⟩ j)]
def yo{T:Tr}{room p:Nat}{L:List ct}{x:List UInt8}(h:dS T room L x=(p,0)):aS x=0/\fv (T.az (aL x).d none)=true/\dx (T.az (aL x).d none)=p/\∃l,L[p]? =some l/\¬room<=l.2.1.length:=by
 unfold dS at h;split at h
 ·rename_i b;injection h with _ a;exact absurd a b
 ·rename_i b;split at h
  ·injection h with _ a;exact absurd a (by decide)
  ·rename_i a;split at h
   ·injection h with _ a;exact absurd a (by decide)
   ·rename_i l c;split at h
    ·injection h with _ a;exact absurd a (by decide)
    ·rename_i f;injection h with e _;rw[e]at c
     exact⟨by simpa using b,by simpa using a,e,l,c,f⟩
def ue{T b:Tr}{room p:Nat}{c d:List ct}{x:List UInt8}(e:∀a,T.az a none=b.az a none)(he:c[p]? =d[p]?)(h:dS T room c x=(p,0)):dS b room d x=(p,0):=by
 obtain⟨f,g,i,l,j,k⟩:=yo h;unfold dS;rw[Hk (by rw[f];decide),<-e,Hk (by rw[g];decide),i,<-he,j];exact Hk k
end
section
open Go Go.RowKit
def jO:∀(xs a:List Int),xs.length=a.length->((List.range xs.length).all λi=>xs.getD i 0==a.getD i 0)=(xs==a)
 | [],[],_=>rfl
 |x::xs,y::a,h=>by
  have b:=jO xs a (by simpa using h);rw[Hs,List.range_succ_eq_map,JQ,List.all_map];simp only[List.getD_cons_zero,Function.comp_def,KR,b];simp[List.cons_beq_cons]
 | [],_::_,h=>by simp at h
 |_::_,[],h=>by simp at h
def mL{P:Program}(w:World)(d:Nat)(t e:TypeId)(n:Nat)(k:IntKind)(ht:P.underlying t=some (.array n e))(he:P.underlying e=some (.int k))(hsz:∀w,(sizeOf e).run P w=.ok 1 w)
    (xs a:List Int) (c:xs.length=n) (hy:a.length=n):
    (Op.equalIn (d+2) t (.agg (xs.map (Value.int k)).toArray) (.agg (a.map (Value.int k)).toArray)).run P w=.ok (xs==a) w:=by
 rw[<-jO xs a (c.trans hy.symm),c,List.range_eq_range',Op.equalIn];simp only[IG,Jz ht,IC,hsz,Std.Legacy.Range.forIn_eq_forIn_range',Std.Legacy.Range.size,J6,J4,Nat.div_one];have b:∀i∈List.range' 0 n 1,i<n:=λi hi=>by simpa using(List.mem_range'_1.1 hi).2
 generalize List.range' 0 n 1=l at b ⊢;induction l with
 |nil=>simp
 |cons i l f=>
  have hi:i<n:=b i (by simp);have px:(part e (xs.map (Value.int k)).toArray (i*1)).run P w=.ok (Value.int k (xs.getD i 0)) w:=by
   simp[part,isAgg,Jz he,List.getD,Hn (show i<xs.length by omega)]
  have g:(part e (a.map (Value.int k)).toArray (i*1)).run P w=.ok (Value.int k (a.getD i 0)) w:=by
   simp[part,isAgg,Jz he,List.getD,Hn (show i<a.length by omega)]
  have h:(Op.equalIn (d+1) e (Value.int k (xs.getD i 0)) (Value.int k (a.getD i 0))).run P w=.ok (xs.getD i 0==a.getD i 0) w:=J8 w d e k k _ _ he;simp only[List.forIn_cons,IG,px,g,h,IC,JQ];cases o:(xs.getD i 0==a.getD i 0)
  ·simp
  ·simp only[JP,Jo,Jp,IP,IC,J2];exact f λj m=>b j (by simp[m])
end
section
open Go Go.RowKit Go.Shelf
def aX.fix(d:aX)(x:Nat):Prop:=x=d.db\/x=d.tb\/x∈d.T.aw\/d.v.ownBlock=some x
def c2.G7{T:Nat->Prop}{w w':World}{d:aX}(h:c2 w d)(k:Kp T w w')(a:∀x,d.fix x->¬T x)(f:∀x,d.aJ x->¬T x):c2 w' d:=
 {h with
  top:=h.top.kp k (a _ (.inl rfl))
  row:=au h.row k (λb e g=>a b (.inr (.inr (.inr e))) g)
  tab:=np h.tab k (a _ (.inr (.inl rfl))) (λb i=>a b (.inr (.inr (.inl i))))
  hsz:=Hy h.hsz k.size
  ln:=λl c=>(h.ln l c).kp k (λx j=>f x ⟨l,c,j⟩)}
def c2.range{w:World}{d:aX}(h:c2 w d){x:Nat}(a:d.fix x\/d.aJ x):d.db<=x/\x<w.heap.size:=by
 have c:=h.lo;have e:=h.lh;have f:=h.hsz;rcases a with(rfl|rfl|a|a)|⟨l,b,a⟩
 ·exact⟨Hm _,by omega⟩
 ·have:=h.tab.tlow;have:=h.hi;omega
 ·have:=h.tab.low x a;have:=h.oa x a;omega
 ·have:=an h.row a;omega
 ·have:=(h.at_ l b x a).1;have:=(h.ln l b).lt a;omega
structure nE (w0 wr:World) (a b:aX) (la lb:List Ln):Prop where
 da:c2 wr {a with ls:=la}
 db:c2 wr {b with ls:=lb}
 kp:Kp ae w0 wr
 fa:∀x,({a with ls:=la}:aX).aJ x->w0.heap.size<=x
 fb:∀x,({b with ls:=lb}:aX).aJ x->w0.heap.size<=x
 af:∀x,({a with ls:=la}:aX).aJ x->¬({b with ls:=lb}:aX).fix x
 ab:∀x,({a with ls:=la}:aX).aJ x->¬({b with ls:=lb}:aX).aJ x
 bf:∀x,({b with ls:=lb}:aX).aJ x->¬({a with ls:=la}:aX).fix x
def nE.swap{w0 wr:World}{a b:aX}{c lb:List Ln}(h:nE w0 wr a b c lb):nE w0 wr b a lb c:=⟨h.db,h.da,h.kp,h.fb,h.fa,h.bf,λx d e=>h.ab x e d,h.af⟩
def nE.next{w0 wr w':World}{a b:aX}{i lb d:List Ln}(h:nE w0 wr a b i lb)(g:dK wr w' {a with ls:=i} d):nE w0 w' a b d lb:=by
 have hz:=h.kp.size;refine⟨g.dv,h.db.G7 g.kp (λx c e=>h.af x (aX.h6 e) c) (λx c e=>h.ab x (aX.h6 e) c),h.kp.then g.kp (λx c e=>by have:=h.fa x (aX.h6 e);omega),λx c=> ?_,h.fb,λx c e=> ?_,λx c e=> ?_,h.bf⟩
 ·rcases g.nf x c with e|e
  ·exact h.fa x e
  ·omega
 ·rcases g.nf x c with f|f
  ·exact h.af x f e
  ·have:=(h.db.range (.inl e)).2;omega
 ·rcases g.nf x c with f|f
  ·exact h.ab x f e
  ·have:=(h.db.range (.inr e)).2;omega
def nE.old{w0 wr w':World}{a b:aX}{c lb:List Ln}(h:nE w0 wr a b c lb)(k:Kp ae wr w'):nE w0 w' a b c lb:=h.next ((dK.refl h.da).old k)
def nE.start{w0 w1 f:World}{a b:aX}(ha:c2 w1 a)(d:c2 f b)(k1:Kp ae w0 w1)(k2:Kp ae w1 f)(g:w0.heap.size<=a.db)(h:w1.heap.size<=b.db):nE w0 f a b a.ls b.ls:=by
 have hz:=k1.size;refine⟨ha.old k2,d,k1.trans k2,λx c=> ?_,λx c=> ?_,λx c e=> ?_,λx c e=> ?_,λx c e=> ?_⟩
 ·have:=(ha.range (.inr c)).1;omega
 ·have:=(d.range (.inr c)).1;omega
 ·have:=(ha.range (.inr c)).2;have:=(d.range (.inl e)).1;omega
 ·have:=(ha.range (.inr c)).2;have:=(d.range (.inr e)).1;omega
 ·have:=(d.range (.inr c)).1;have:=(ha.range (.inl e)).2;omega
def rA{P:Program}(d:Nat)(xs:Array Value)(W:World):∀fs:List Field,(∀f∈fs,∃v,(part f.type xs f.offset).run P W=.ok v W/\(Op.equalIn d f.type v v).run P W=.ok true W)->(Op.eqFields d xs xs fs).run P W=.ok true W
 | [],_=>by simp[Op.eqFields]
 |f::fs,h=>by
  obtain⟨v,b,c⟩:=h f (HX ..);have a:=rA d xs W fs (λg e=>h g (Iz _ e));unfold Op.eqFields;split
  ·simp only[IG,b,IC,c,JP,Jo,Jp];exact a
  ·exact a
def CS:Tryz.prog.underlying 56=some (.struct (Tryz.prog.fieldsOf 56)):=by kernel_rfl
def AK:(Tryz.prog.fieldsOf 56).toList.map (λf=>(f.type,f.offset))=[(38,0),(38,1),(3,2),(38,3),(54,4)]:=by kernel_rfl
def GI(W:World):(sizeOf 38).run Tryz.prog W=.ok 1 W:=by kernel_rfl
def vI(s:Sh)(h:s.ref.length=32)(W:World):(binOp .neq 56 (.agg (bZ s).toArray) (.agg (bZ s).toArray)).run Tryz.prog W=.ok (.bool false) W:=by
 have key:∀f∈(Tryz.prog.fieldsOf 56).toList,∃v,(part f.type (bZ s).toArray f.offset).run Tryz.prog W=.ok v W/\(Op.equalIn 9999 f.type v v).run Tryz.prog W=.ok true W:=by
  intro f hf;have hm:(f.type,f.offset)∈(Tryz.prog.fieldsOf 56).toList.map (λf=>(f.type,f.offset)):=Hw.2 ⟨f,hf,rfl⟩;rw[AK]at hm
  obtain⟨a0,a1,a2,a3,a4,a5,a6,a7,r,a9,c,d,a12,i,j,k,l,m,o,p,a20,a21,a22,a23,a24,a25,a26,a27,a28,q,a30,a31,e⟩:=ox s.ref h;unfold bZ;rw[e];simp only[Ho,H5,Ia,Prod.mk.injEq]at hm;rcases hm with⟨a,b⟩|⟨a,b⟩|⟨a,b⟩|⟨a,b⟩|⟨a,b⟩
  ·rw[a,b];exact⟨.int .u64 s.now,by kernel_rfl,(J8 W 9998 _ _ .u64 _ _ Tryz.underlying38).trans (by rw[J9])⟩
  ·rw[a,b];exact⟨.int .u64 s.tok,by kernel_rfl,(J8 W 9998 _ _ .u64 _ _ Tryz.underlying38).trans (by rw[J9])⟩
  ·rw[a,b];exact⟨.int .i64 (aE s.g.st),by kernel_rfl,(J8 W 9998 _ _ .i64 _ _ Tryz.underlying3).trans (by rw[J9])⟩
  ·rw[a,b];exact⟨.int .u64 (cN s.g.st),by kernel_rfl,(J8 W 9998 _ _ .u64 _ _ Tryz.underlying38).trans (by rw[J9])⟩
  ·rw[a,b];exact⟨.agg (([a0,a1,a2,a3,a4,a5,a6,a7,r,a9,c,d,a12,i,j,k,l,m,o,p,a20,a21,a22,a23,a24,a25,a26,a27,a28,q,a30,a31].map (λn:Nat=>(n:Int))).map (Value.int .u64)).toArray,by kernel_rfl,(mL W 9997 _ 38 32 .u64 Tryz.underlying54 Tryz.underlying38 GI _ _ rfl rfl).trans (by rw[J9])⟩
 rw[run_neq_struct,run_equalIn_agg W 9999 _ _ _ CS (by kernel_rfl),rA 9999 _ W _ key];rfl
structure AL (w0:World) (a b:aX) (ad bd p nl:Nat):Prop where
 ad:a.db=ad
 bd:b.db=bd
 az:∀x,a.T.az x none=b.T.az x none
 rt:∀x,fv (a.T.az x none)=true->dx (a.T.az x none)<nl
 room:a.room=b.room
 batch:a.batch=b.batch
 bt:a.batch<=64
 n8:nl<=8
 p:p<nl
 ga:0<a.d_
 gb:0<b.d_
 tab:dH w0
def iF(w0:World)(a b:aX)(p d N q:Nat)(wr:World):Prop:=∃c lb,nE w0 wr a b c lb/\iE N p (c.map aC) (lb.map aC)/\c.length=d/\lb.length=d/\q<wr.heap.size/\¬({a with ls:=c}:aX).aJ q/\¬({b with ls:=lb}:aX).aJ q
def iF.old{w0 wr w':World}{a b:aX}{p c N q:Nat}(h:iF w0 a b p c N q wr)(k:Kp ae wr w'):iF w0 a b p c N q w':=by
 obtain⟨d,lb,e,f,g,i,j,l⟩:=h;exact⟨d,lb,e.old k,f,g,i,HP j k.size,l⟩
def iF.kp{w0 wr:World}{a b:aX}{p c N q:Nat}(h:iF w0 a b p c N q wr):Kp ae w0 wr:=by
 obtain⟨e,lb,d,_⟩:=h;exact d.kp
def iF.renew{w0 wr:World}{a b:aX}{p d N q:Nat}(h:iF w0 a b p d N q wr)(o:Obj):iF w0 a b p d N wr.heap.size (wr.alloc o):=by
 obtain⟨f,lb,c,g,i,j,_⟩:=h;refine⟨f,lb,c.old ((Kp.refl ae wr).alloc o),g,i,j,by rw[HB];omega,λe=> ?_,λe=> ?_⟩
 ·have:=(c.da.range (.inr e)).2;omega
 ·have:=(c.db.range (.inr e)).2;omega
def dK.nq{w w':World}{d:aX}{ls:List Ln}{q:Nat}(g:dK w w' d ls)(a:q<w.heap.size)(h:¬d.aJ q):q<w'.heap.size/\¬({d with ls:=ls}:aX).aJ q/\∀cs t,ag w q cs t->ag w' q cs t:=by
 refine⟨HP a g.kp.size,λe=> ?_,λcs t b=>b.kp g.kp (λe=>h (aX.h6 e))⟩;rcases g.nf q e with e|e
 ·exact h e
 ·omega
def p5(ls:List Ln)(i:Nat)(hi:i<ls.length)(y:ByteArray):(ls.set i {ls[i]with q:=ls[i].q++[y]}).map aC=(ls.map aC).set i (ld y (aC ls[i])):=by rw[Is];rfl
def oE(ls:List Ln){i:Nat}(hi:i<ls.length):(ls.map aC)[i]? =some (aC ls[i]):=by rw[H2,Hn hi];rfl
def GJ{w0 wr:World}{a b:aX}{ad bd p o N q:Nat}(C:AL w0 a b ad bd p o)(H:iF w0 a b p o N q wr){y:ByteArray}(hy:y.size<=100000):
    ∃(r1:Nat) (r2:Int),Calls Tryz.prog 9 #[.pointer (some ⟨ad,0,none⟩),.string y] wr λe w'=>e=.returned (.tuple #[.int .i64 r1,.int .i64 r2])/\(∀cs t,ag wr q cs t->ag w' q cs t)/\
     (r2≠0/\iF w0 a b p o (N+64) q w'\/r2=0/\r1≠p/\iF w0 a b p o (N+64) q w'\/r2=0/\r1=p/\∀W,Kp ae w' W->Calls Tryz.prog 9 #[.pointer (some ⟨bd,0,none⟩),.string y] W λe O=>e=.returned (.tuple #[.int .i64 p,.int .i64 (0:Int)])/\iF w0 a b p o (N+64) q O):=by
 obtain⟨c,lb,hm,s,g,h,Q,F,j⟩:=H;obtain rfl:=C.ad;obtain rfl:=C.bd;have hp:=C.p;have S:=AF hm.da y hy (λx hu=>by show _<c.length;rw[g];exact C.rt x hu);obtain⟨R,P⟩:∃R,dS a.T a.room (c.map aC) (bl y)=R:=⟨_,rfl⟩
 obtain⟨r1,r2⟩:=R;refine⟨r1,r2,S.mono ?_⟩;rintro e w' ⟨he,u,v,f⟩;have G:dS ({a with ls:=c}:aX).T ({a with ls:=c}:aX).room (({a with ls:=c}:aX).ls.map aC) (bl y)=(r1,r2):=P;simp only[G]at he f;obtain⟨I,J,U⟩:=v.nq Q F;refine⟨he,U,?_⟩;have l:=hm.next v;rcases f with⟨w,h2,D⟩|⟨w,hi,rfl⟩
 ·have D:u=c:=D;exact .inl ⟨w,u,lb,l,by rw[D];exact s.more,by rw[D];exact g,h,I,J,j⟩
 ·have hi:r1<c.length:=hi;have m:=oE c hi;by_cases n:r1=p
  ·subst n;refine .inr (.inr ⟨w,rfl,λW k=> ?_⟩);have z:=l.old k;subst w;have A:r1<lb.length:=by omega
   have V:=AF z.db y hy (λx hu=>by
    show _<lb.length;rw[h];have hu:fv (b.T.az x none)=true:=hu;show dx (b.T.az x none)<o;rw[<-C.az]at hu ⊢
    exact C.rt x hu)
   have K:dS ({b with ls:=lb}:aX).T ({b with ls:=lb}:aX).room (({b with ls:=lb}:aX).ls.map aC) (bl y)=(r1,0):=by
    show dS b.T b.room (lb.map aC) (bl y)=_;rw[<-C.room];exact ue C.az s.eq P
   refine V.mono ?_;rintro e O ⟨B,X,i,d⟩;simp only[K]at B d;rcases d with⟨Y,_⟩|⟨_,Z,rfl⟩
   ·exact absurd rfl Y
   ·have L:=(z.swap.next i).swap;obtain⟨s1,s2,_⟩:=i.nq (HP I k.size) j;have M:aC lb[r1]=aC c[r1]:=by
     have E:=s.eq;rw[m,oE lb A]at E
     injection E with E;exact E.symm
    refine⟨B,_,_,L,?_,by rw[Hr];exact g,by rw[Hr];exact h,s1,J,s2⟩;have r:=s.put hy m;rw[show(c.map aC).set r1 (ld y (aC c[r1]))=(c.set r1 {c[r1]with q:=c[r1].q++[y]}).map aC from(p5 c r1 hi y).symm]at r
    rw[show(lb.map aC).set r1 (ld y (aC c[r1]))=(lb.set r1 {lb[r1]with q:=lb[r1].q++[y]}).map aC by rw[p5 lb r1 A y,M]]at r
    exact r
  ·refine .inr (.inl ⟨w,n,_,_,l,?_,by rw[Hr];exact g,h,I,J,j⟩);have r:=s.ld hy m n;rw[show(c.map aC).set r1 (ld y (aC c[r1]))=(c.set r1 {c[r1]with q:=c[r1].q++[y]}).map aC from(p5 c r1 hi y).symm]at r
   exact r
def vJ{N:Nat}{ls:List Ln}(h:∀l∈ls.map aC,h_ N l)(a:N<=1000000):∀m∈ls,cq m.p.s.bk<=1000000:=λm hm=>by
 have:=(h _ (Hw.2 ⟨m,hm,rfl⟩)).bk;have b:cq m.p.s.bk<=N:=this;omega
def CT{w0 wr:World}{a b:aX}{ad bd p n N q t:Nat}(C:AL w0 a b ad bd p n)(H:iF w0 a b p n N q wr)(u:N<=1000000)(ht:t<18446744073709551616):
    Calls Tryz.prog 11 #[.pointer (some ⟨ad,0,none⟩),.int .u64 t] wr λe w'=>e=.returned (.tuple #[])/\(∀cs t,ag wr q cs t->ag w' q cs t)/\∀W,Kp ae w' W->Calls Tryz.prog 11 #[.pointer (some ⟨bd,0,none⟩),.int .u64 t] W λe v=>e=.returned (.tuple #[])/\iF w0 a b p n (N+64) q v:=by
 obtain⟨w,lb,hm,o,f,g,x,r,s⟩:=H;obtain rfl:=C.ad;obtain rfl:=C.bd;refine(sI hm.da t ht (by show w.length<=8;rw[f];exact C.n8) (vJ o.ba u)).mono ?_;rintro e w' ⟨rfl,h,i,j⟩;obtain⟨y,z,A⟩:=i.nq x r;refine⟨rfl,A,λW k=> ?_⟩;have l:=(hm.next i).old k;refine(sI l.db t ht (by show lb.length<=8;rw[g];exact C.n8) (vJ o.bb u)).mono ?_;rintro e v ⟨rfl,m,c,d⟩;have B:h.length=w.length:=by have:=HC List.length j;rw[Hq,Hq,Hq]at this;exact this
 have l2:m.length=lb.length:=by have:=HC List.length d;rw[Hq,Hq,Hq]at this;exact this
 obtain⟨s1,s2,_⟩:=c.nq (HP y k.size) s;refine⟨rfl,h,m,(l.swap.next c).swap,?_,B.trans f,l2.trans g,s1,z,s2⟩;rw[j,d];exact o.tick t
def CU{w0 wr:World}{a b:aX}{ad bd p o N q:Nat}(C:AL w0 a b ad bd p o)(H:iF w0 a b p o N q wr)(F:N<=1000000):
    Calls Tryz.prog 13 #[.pointer (some ⟨ad,0,none⟩)] wr λe w1=>∃y O,e=.returned y/\Sl w1 y O.length 2 (O.flatMap f_)/\O.length<=512/\
     ∀W,Kp ae w1 W->Calls Tryz.prog 13 #[.pointer (some ⟨bd,0,none⟩)] W λe r=>∃z m,e=.returned z/\Sl r z m.length 2 (m.flatMap f_)/\m.length<=512/\cB p O=cB p m/\(cB p m).length=m.length/\iF w0 a b p o (N+64) q r/\Kp (λx=>x<w1.heap.size) W r:=by
 obtain⟨B,lb,hm,A,f,g,I,D,E⟩:=H;obtain rfl:=C.ad;obtain rfl:=C.bd;have s:∀ {ls:List Ln},ls.length=o->(b4 a.batch 0 (ls.map aC)).length<=512:=λ {ls} t=>by
  have:=jJ a.batch (ls.map aC) 0;rw[Hq,t]at this
  have Q:a.batch*o<=64*8:=K6 C.bt C.n8;omega
 refine(oB (n:=N) hm.da (C.tab.kp hm.kp (λx=>x)) C.ga (by show B.length<=8;rw[f];exact C.n8) C.bt (λl t=>A.ba _ (Hw.2 ⟨l,t,rfl⟩)) F).mono ?_;rintro e w1 ⟨y,h,rfl,u,g3,g4,g5,g6,g7,_⟩;refine⟨y,_,rfl,gG u,s f,λW k=> ?_⟩;have v:dK wr w1 {a with ls:=B} h:=⟨g3,g5,g6,g7⟩
 obtain⟨J,K,_⟩:=v.nq I D;have w:=hm.next v;have i:=w.old k;refine(oB (n:=N) i.db (C.tab.kp i.kp (λx=>x)) C.gb (by show lb.length<=8;rw[g];exact C.n8) (by show b.batch<=64;rw[<-C.batch];exact C.bt) (λl t=>A.bb _ (Hw.2 ⟨l,t,rfl⟩)) F).mono ?_;rintro e r ⟨z,j,rfl,c,f3,f4,f5,f6,f7,_⟩;have L:h.length=B.length:=by have:=HC List.length g4;unfold dD at this;rw[Hq,Hq,Hq]at this;exact this
 have l2:j.length=lb.length:=by have:=HC List.length f4;unfold dD at this;rw[Hq,Hq,Hq]at this;exact this
 have G:=A.out a.batch;have M:({b with ls:=lb}:aX).batch=a.batch:=C.batch.symm;rw[M]at c f4
 have d:dK W r {b with ls:=lb} j:=⟨f3,f5,f6,f7⟩
 obtain⟨s1,s2,_⟩:=d.nq (HP J k.size) E;refine⟨z,_,rfl,gG c,s g,G.1,G.2,⟨h,j,(i.swap.next d).swap,?_,L.trans f,l2.trans g,s1,K,s2⟩,f5.mono (λx _ P=>(w.db.range (.inr (aX.h6 P))).2)⟩;rw[g4,f4];exact A.step C.bt
def Ff{w0 wr:World}{a b:aX}{ad bd p u N q:Nat}(C:AL w0 a b ad bd p u)(H:iF w0 a b p u N q wr)(F:N<=1000000):
    ∃(bx:Nat) (r:List Value),
     Calls Tryz.prog 14 #[.pointer (some ⟨ad,0,none⟩),.int .i64 p] wr (λe w'=>e=.returned (.int .i64 bx)/\wr=w')/\
     Calls Tryz.prog 14 #[.pointer (some ⟨bd,0,none⟩),.int .i64 p] wr (λe w'=>e=.returned (.int .i64 bx)/\wr=w')/\
     Calls Tryz.prog 15 #[.pointer (some ⟨ad,0,none⟩),.int .i64 p] wr (λe w'=>e=.returned (.agg r.toArray)/\∀W,Kp ae w' W->
      Calls Tryz.prog 15 #[.pointer (some ⟨bd,0,none⟩),.int .i64 p] W λe v=>e=.returned (.agg r.toArray)/\iF w0 a b p u N q v)/\
     (∀W,(binOp .neq 56 (.agg r.toArray) (.agg r.toArray)).run Tryz.prog W=.ok (.bool false) W):=by
 obtain⟨c,lb,hm,w,j,l,G,y,z⟩:=H;obtain rfl:=C.ad;obtain rfl:=C.bd;have d:p<c.length:=by rw[j];exact C.p
 have h:p<lb.length:=by rw[l];exact C.p
 have m:aC lb[p]=aC c[p]:=by
  have t:=w.eq;rw[oE c d,oE lb h]at t
  injection t with t;exact t.symm
 have A:lb[p].q=c[p].q:=HC (λx:ct=>x.2.1) m;have hp:lb[p].p=c[p].p:=HC (λx:ct=>x.1) m;have I:=sG hm.da p d;have B:=sG hm.db p h;have J:=vJ w.ba F _ (Ht d);have B:Calls Tryz.prog 14 #[.pointer (some ⟨b.db,0,none⟩),.int .i64 p] wr (λe w'=>e=.returned (.int .i64 c[p].q.length)/\wr=w'):=by rw[<-A];exact B
 refine⟨c[p].q.length,bZ c[p].p.s,I,B,?_,λW=>vI _ (hm.da.ln _ (Ht d)).po.sh.ok.len W⟩;refine(sH hm.da p d (by show cq c[p].p.s.bk<_;omega)).mono ?_;rintro e w' ⟨rfl,f,g2,g3,g4,g5,g6⟩;refine⟨rfl,λW k=> ?_⟩;have n:dK wr w' {a with ls:=c} f:=⟨g2,g4,g5,g6⟩
 obtain⟨K,L,_⟩:=n.nq G y;have o:=(hm.next n).old k;have D:cq lb[p].p.s.bk<9223372036854775807:=by rw[hp];omega
 have M:=sH o.db p h D;have E:Calls Tryz.prog 15 #[.pointer (some ⟨b.db,0,none⟩),.int .i64 p] W λe w'=>e=.returned (.agg (bZ c[p].p.s).toArray)/\∃ls,c2 w' {b with ls:=ls}/\ls.map aC=lb.map aC/\Kp ({b with ls:=lb}:aX).all W w'/\(∀x,({b with ls:=ls}:aX).all x->({b with ls:=lb}:aX).all x\/W.heap.size<=x)/\(∀x,({b with ls:=ls}:aX).aJ x->({b with ls:=lb}:aX).aJ x\/W.heap.size<=x):=by rw[<-hp];exact M
 refine E.mono ?_;rintro e v ⟨rfl,i,f2,f3,f4,f5,f6⟩;have O:f.length=c.length:=by have:=HC List.length g3;rw[Hq,Hq]at this;exact this
 have l2:i.length=lb.length:=by have:=HC List.length f3;rw[Hq,Hq]at this;exact this
 have g:dK W v {b with ls:=lb} i:=⟨f2,f4,f5,f6⟩
 obtain⟨s1,s2,_⟩:=g.nq (HP K k.size) z;refine⟨rfl,f,i,(o.swap.next g).swap,?_,O.trans j,l2.trans l,s1,L,s2⟩;have P:f.map aC=c.map aC:=g3;rw[P,f3];exact w
def vK(p:Nat)(l:List (Nat×ByteArray))(o:Nat×ByteArray):cB p (l++[o])=cB p l++(if o.1=p then[o.2]else[]):=by
 rw[kV];congr 1
def Dk(O:List (Nat×ByteArray))(p:Nat)(v:Value)(w:World)(hO:O.length<=512)(G:Sl w v O.length 2 (O.flatMap f_)):
    Calls Tryz.prog 12 #[v,.int .i64 p] w λe w'=>∃R,e=.returned R/\w'.ownsRow w.heap.size 9 1 R (cB p O).length (strs (cB p O))/\Kp ae w w':=by
 obtain⟨H,cap,rfl⟩:∃H cap,v=.slice H O.length cap:=by obtain⟨_,_,H,cap,rfl,_⟩:=G;exact⟨_,_,rfl⟩
 have V:=aa G;have x:Hid (w.ownsRow w.heap.size 9 1 (.slice none 0 0) (cB p (O.take 0)).length (strs (cB p (O.take 0)))):=aa ⟨rfl,.inl ⟨rfl,rfl⟩⟩;have y:Hid (Kp ae w w):=aa (Kp.refl _ _);clear G;refine al ?_;intro PP W;go_enter Tryz.func12,Tryz.ntmps12;go_wp2_with fail;go_loopw [10,5] (λi0 v0 wr=>∃k:Nat,i0=.int .i64 k/\k<=O.length/\Hid (wr.ownsRow w.heap.size 9 1 v0 (cB p (O.take k)).length (strs (cB p (O.take k))))/\Hid (Kp ae w wr)) (λi0 _ _=>O.length-(intOf i0).toNat)
 case atStart=>exact⟨0,rfl,Hv _,x,y⟩
 case round=>
  clear x y;obtain⟨k,rfl,hk,l,m⟩:=hrel;obtain⟨i,I⟩:∃i:World,i=wr:=⟨_,rfl⟩
  subst I;obtain⟨S,vc,rfl⟩:=aN l.out;by_cases z:k<O.length
  ·have J:(k:Int)<O.length:=by omega
   obtain⟨g,off,T,K,a⟩:=(V.out.old m.out).at nv (by decide) k z;injection K with K _ X;subst K X;have A:O.take (k+1)=O.take k++[O[k]]:=HQ z;have j:=vK p (O.take k) O[k];rw[<-A]at j
   obtain⟨⟨q,s⟩,U⟩:∃o,O[k]=o:=⟨_,rfl⟩
   rw[U]at a j
   have c0:i.cell? ⟨g,off+k*2,none⟩=some (.int .i64 q):=a 0 _ rfl;have c1:i.cell? ⟨g,off+k*2+1,none⟩=some (.string s):=a 1 _ rfl;have f:=aa j;have hsz:=m.out.size;have hlen:(cB p (O.take k)).length<=512:=by have:=rz p (O.take k);rw[HG]at this;omega
   obtain⟨L,M⟩:∃L,cB p (O.take k)=L:=⟨_,rfl⟩
   rw[M]at l f hlen
   rw[M];clear a A j U M;by_cases B:q=p
   ·subst B;have C:Hid (cB q (O.take (k+1))=L++[s]):=aa (by rw[f.out,Hl rfl]);clear f;have D:=ag.new i [.int .i64 q,.string s] 61;have b1:=D.cell 1 (v:=.string s) rfl;have r:=aa (l.out.alloc (.cells #[.int .i64 q,.string s] 61));have t:=aa (m.out.alloc (.cells #[.int .i64 q,.string s] 61));have Y:w.heap.size<=(i.alloc (.cells #[.int .i64 q,.string s] 61)).heap.size:=t.out.size;go_upto_region 6 with(fail)
    generalize i.alloc (.cells #[.int .i64 q,.string s] 61)=wx at*;generalize i.heap.size=q0 at*;clear D c0 c1;go_wp2_with(at_builtin;refine fk yv (.tmp 18) (.tmp 21) rfl rfl w.heap.size (r.out.alloc _) [.string s] rfl rfl rfl (cz _ _) rfl (by omega) (by omega) (by simp;omega) ?_);intro g3 E w3 h c N;have F:Kp ae w w3:=(t.out.alloc _).grown c (λb e=>.inr (an r.out e).1)
    have d:Hid (w3.ownsRow w.heap.size 9 1 (.slice (some ⟨g3,0,none⟩) (L.length+1) E) (cB q (O.take (k+1))).length (strs (cB q (O.take (k+1))))):=aa (by
     rw[C.out,HK,jh]
     exact h)
    have u:=aa F;clear h c N F l m r t C;go_wp2_with fail;go_roundw
    case rel=>exact⟨k+1,by go_num,by omega,d,u⟩
    case measure=>simp[intOf];omega
   ·have Z:¬(q:Int)=(p:Int):=by omega
    have d:Hid ((i.alloc (.cells #[.int .i64 q,.string s] 61)).ownsRow w.heap.size 9 1 (.slice S L.length vc) (cB p (O.take (k+1))).length (strs (cB p (O.take (k+1))))):=aa (by
     rw[f.out,Hk B,HH]
     exact l.out.alloc _)
    have u:=aa (m.out.alloc (.cells #[.int .i64 q,.string s] 61));clear l m f;go_wp2_with fail;go_roundw
    case rel=>exact⟨k+1,by go_num,by omega,d,u⟩
    case measure=>simp[intOf];omega
  ·have P:k=O.length:=by omega
   subst P;have J:¬(O.length:Int)<O.length:=by omega
   have d:Hid (i.ownsRow w.heap.size 9 1 (.slice S (cB p (O.take O.length)).length vc) (cB p O).length (strs (cB p O))):=aa (by have:=l.out;rw[H9]at this ⊢;exact this);obtain⟨n,Q⟩:∃n,(cB p (O.take O.length)).length=n:=⟨_,rfl⟩
   rw[Q]at d
   rw[Q];clear l Q;go_wp2_with fail;exact W.out _ _ ⟨_,rfl,d.out,m.out⟩
def CV(Q:List fi)(o:List bX)(room batch:Int)(l:List jR)(bD:∀a∈l,a.Ok)(ho:∀r∈o,r.Ok)(i:Int)(hi: -9223372036854775808<=i/\i<=9223372036854775807)(pv rv v:Value)(w:World)(bf:mD w Q)(aX:Sl w pv Q.length 16 (Q.flatMap bE))(bg:Sl w rv o.length 3 (o.flatMap fw))(hs:Sl w v l.length 10 (l.flatMap iW))(hT:dH w):
    Calls Tryz.prog 3 #[.agg #[pv,rv,.int .i64 room,.int .i64 batch],v,.int .i64 i] w λe w'=>e=.returned (.bool true)/\Kp ae w w':=by
 obtain⟨ap,cp,rfl⟩:∃ap cp,pv=.slice ap Q.length cp:=by obtain⟨ao,cap,rfl,_⟩:=aX.is;exact⟨_,_,rfl⟩
 obtain⟨bF,bH,rfl⟩:∃bF bH,rv=.slice bF o.length bH:=by obtain⟨ao,cap,rfl,_⟩:=bg.is;exact⟨_,_,rfl⟩
 obtain⟨ao,cap,rfl⟩:∃ao cap,v=.slice ao l.length cap:=by obtain⟨_,_,ao,cap,rfl,_⟩:=hs;exact⟨_,_,rfl⟩
 have bI:=aa (λW (k:Kp ae w W)=>De Q o.length bF bH room batch l W (λq B=>(bf.old k).mem q B) _ _ (aX.old k) (hs.old k));have bh:=aa (λW (k:Kp ae w W)=>wN W (hT.kp k (λx=>x)));have aZ:=aa bf;have bJ:=aa aX;have bK:=aa bg;have de:=aa hs;have c5:=aa hT;have cI:=aa bD;have bL:=aa ho;have bM:=aa (ag.new w [.slice ap Q.length cp,.slice bF o.length bH,.int .i64 room,.int .i64 batch] 25);have bi:=aa ((Kp.refl ae w).alloc (.cells #[.slice ap Q.length cp,.slice bF o.length bH,.int .i64 room,.int .i64 batch] 25));obtain⟨U,hU⟩:∃U:Nat,IntKind.u64.wrap i=U:=⟨(IntKind.u64.wrap i).toNat,by have:=mA (Go.wf_wrap .u64 i);omega⟩
 have cJ:Hid (U<18446744073709551616):=aa (by have:=mA (Go.wf_wrap .u64 i);omega);clear bf aX bg hs hT bD ho;refine al ?_;intro PP c6;have ax:Hid (∀W,Kp ae w W->PP (.returned (.bool true)) W):=aa (λW k=>c6.out _ _ ⟨rfl,k⟩);clear c6;go_enter Tryz.func3,Tryz.ntmps3;go_wp2_with fail;refine(bI.out _ bi.out).mono ?_;rintro e w1 ⟨⟨b,rfl,bO⟩,bj⟩;have aA:=aa (bi.out.trans bj);have bl:=aa bO;have R:=aa (bM.out.kp bj (λx=>x));clear bj bO bI bM;cases b with
 |true=>
  clear bl R;go_wp2_with fail;refine(bh.out _ aA.out).mono ?_;rintro e w4 ⟨rfl,s⟩;have aB:=aa (ax.out w4 (aA.out.trans s));clear s;go_wp2_with fail;exact aB.out
 |false=>
  obtain⟨cK,c7,aD,df,dg⟩:=bl.out rfl;have bP:=aa aD;have d0:=R.out.ai;have d1:=R.out.aj;have d2:=R.out.aq;have d3:=R.out.aK;have aE:=aa (λW (k:Kp ae w W)=>vy Q o room batch W (by omega) (by omega) ((aZ.out.old k).mem) _ _ (bJ.out.old k) (bK.out.old k));clear bl cK aD;go_wp2_with fail;refine(aE.out _ aA.out).mono ?_;rintro e w2 ⟨dh,di,rfl,Z,ac,bm⟩;have H:=aa (aA.out.trans bm);have a0:=aa (R.out.kp bm (λx=>x));clear bm d0 d1 d2 d3 R;by_cases hE:nk Q o room batch=0
  case neg=>
   have I:=aa (λW (k:Kp ae w W) (u z:Value) hu hz=>wL Q o room batch W (aZ.out.old k) bL.out (by omega) u z hu hz hE);obtain⟨E,bQ⟩:∃E,nk Q o room batch=E:=⟨_,rfl⟩
   rw[bQ]at I hE
   have bR:=aa (I.out _ H.out _ _ Z ac);clear bQ Z ac bP;go_wp2_with fail;refine(bR.out).mono ?_;rintro e w3 ⟨rfl,C⟩;have S:=aa (H.out.trans C);have t:=aa (a0.out.kp C (λx=>x));have d0:=t.out.ai;have d1:=t.out.aj;have d2:=t.out.aq;have d3:=t.out.aK;clear C bR a0;go_wp2_with fail;refine(aE.out _ S.out).mono ?_;rintro e w4 ⟨cL,cM,rfl,J,K,s⟩;have ak:=aa (S.out.trans s);have aF:=aa (I.out _ ak.out _ _ J K);clear s d0 d1 d2 d3 J K I aE t;go_wp2_with fail;refine(aF.out).mono ?_;rintro e w5 ⟨rfl,G⟩;have bS:=aa (ak.out.trans G);clear G aF;go_wp2_with fail;refine(bh.out _ bS.out).mono ?_;rintro e w6 ⟨rfl,bT⟩;have aB:=aa (ax.out w6 (bS.out.trans bT));clear bT;go_wp2_with fail;exact aB.out
  have I:=aa (λW (k:Kp ae w W) (u z:Value) hu hz=>sF Q o room batch W (aZ.out.old k) bL.out (by omega) u z hu hz hE);have bC:=aa (nl hE);have bR:=aa (I.out _ H.out _ _ Z ac);clear Z ac hE;go_wp2_with fail;refine(bR.out).mono ?_;rintro e w3 ⟨da,rfl,hdv,aG,aI,aJ,av,aL,C⟩;have S:=aa (H.out.trans C);have t:=aa (a0.out.kp C (λx=>x));obtain⟨ad,bn⟩:∃ad,da.db=ad:=⟨_,rfl⟩
  have bU:=aa (show c2 w3 da/\cr (o.map bX.rt) da.T/\da.room=room.toNat/\da.batch=batch.toNat/\da.ls.map aC=Q.map (λq=>(dZ q.pc (dn q.pc.c),[],g_))/\w.heap.size<=da.db/\da.db=ad from⟨hdv,aG,aI,aJ,av,Hy H.out.size aL,bn⟩);have d0:=t.out.ai;have d1:=t.out.aj;have d2:=t.out.aq;have d3:=t.out.aK;rw[bn];clear C bR a0 hdv aG aI aJ av aL bn;go_wp2_with fail;refine(aE.out _ S.out).mono ?_;rintro e w4 ⟨cL,cM,rfl,J,K,s⟩;have ak:=aa (S.out.trans s);have aM:=aa s;have bV:=aa (t.out.kp s (λx=>x));have aF:=aa (I.out _ ak.out _ _ J K);clear s d0 d1 d2 d3 J K I aE t;go_wp2_with fail;refine(aF.out).mono ?_;rintro e w5 ⟨dd,rfl,hdv,aG,aI,aJ,av,aL,G⟩;obtain⟨bd,V⟩:∃bd,dd.db=bd:=⟨_,rfl⟩
  rw[V];have aP:=bV.out.kp G (λx=>x);have d0:=aP.ai;obtain⟨M,a8⟩:∃M,Q.length=M:=⟨_,rfl⟩
  obtain⟨a1,a2,a3,a4,a5,a6,a7⟩:=bU.out;have cN:M<=8/\1<=M:=by have:=bC.out.n8;omega
  have bW:da.ls.length=M:=by have:=HC List.length a5;rw[Hq,Hq]at this;exact this.trans a8
  have bY:dd.ls.length=M:=by have:=HC List.length av;rw[Hq,Hq]at this;exact this.trans a8
  obtain⟨p,hp⟩:∃p,U%M=p:=⟨_,rfl⟩
  have cO:p<M:=by rw[<-hp];exact Iw _ (by omega)
  have cP:0<w.heap.size:=oC c5.out;have bZ:da.batch<=64:=by rw[a4];have:=bC.out.bt;omega
  have b_:Kp ae w3 w5:=aM.out.trans G;have N:=nE.start a1 hdv S.out b_ a6 (Hy aM.out.size aL)
  have cG:Hid (AL w da dd ad bd p M):=aa {
   ad:=a7,bd:=V,
   az:=λx=>vH a2 aG (λr hr=>by
    obtain⟨g,h1,rfl⟩:=Hw.1 hr
    exact mB ((mI bC.out.x9).fF g h1) (bL.out g h1)) (mI bC.out.x9).nd x,
   rt:=λx hx=>by have:=AG a2 (mI bC.out.x9) bL.out x hx;omega,
   room:=a3.trans aI.symm,batch:=a4.trans aJ.symm,bt:=bZ,n8:=cN.1,p:=cO,
   ga:=by have h1:=a1.lo;have h2:=a1.lh;omega,
   gb:=by have h1:=hdv.lo;have h2:=hdv.lh;have h3:=ak.out.size;omega,tab:=c5.out}
  have cc:Hid (iF w da dd p M (64*0) 0 w5):=aa (by
   have bp:∀q∈Q,h_ 0 (dZ q.pc (dn q.pc.c),[],g_)/\oi (dZ q.pc (dn q.pc.c),[],g_):=λq B=>⟨Di q.pc,⟨rfl,kT _⟩⟩
   refine⟨da.ls,dd.ls,N,?_,bW,bY,by have:=N.kp.size;omega,λe=>by have:=N.fa _ e;omega,λe=>by have:=N.fb _ e;omega⟩;rw[a5,av];refine⟨rfl,rfl,λx hx=> ?_,λx hx=> ?_,λj x _ hx=> ?_⟩
   ·obtain⟨q,B,rfl⟩:=Hw.1 hx;exact(bp q B).1
   ·obtain⟨q,B,rfl⟩:=Hw.1 hx;exact(bp q B).1
   ·obtain⟨q,B,rfl⟩:=Hw.1 (IV hx);exact(bp q B).2)
  have cQ:=cJ.out;have cR:IntKind.u64.wrap (M:Int)=M:=IntWalk.u64_in _ (by omega);have cS:((M:Int)=0)=False:=by apply eq_false;omega
  have cT:Int.tmod (U:Int) (M:Int)=p:=by rw[<-hp];exact Int.ofNat_tmod U M
  have dj:IntKind.i64.wrap (p:Int)=p:=I4 _ (by omega);rw[a8]at d0
  clear hdv aG aI aJ av aL G aP bV V a1 a2 a3 a4 a5 a6 a7 bW bY hp cP bZ b_ N a8 bU bC aF aZ bJ bK aM ak S H aA bi bL cQ;go_wp2_with fail;go_loopg [59] l.length (λg cU wr=>∃j q:Nat,j<=l.length/\cU=.int .i64 j/\g=l.length-j/\Hid (iF w da dd p M (64*j) q wr))
  case atStart=>exact⟨0,_,Hv _,rfl,rfl,cc⟩
  case round=>
   clear cc d0 hU cS cT cR;obtain⟨j,q,hj,rfl,cd,P⟩:=hrel;have bq:=aa cd;clear cd;by_cases a9:j<l.length
   ·have cV:(j:Int)<l.length:=by omega
    obtain⟨ab,off,c8,e1,d⟩:=z1 (de.out.old P.out.kp) j a9;injection e1 with e1 _ e3;subst e1 e3;obtain⟨a,ha⟩:∃a,l[j]=a:=⟨_,rfl⟩
    have br:=cI.out a (by rw[<-ha];exact Ht a9);have V:=bP.out a (by rw[<-ha];exact Ht a9);rw[ha]at d
    have ba:=λW=>wy a br V W;have bs:=pZ V;obtain⟨y,hy⟩:∃y,fV a=y:=⟨_,rfl⟩
    rw[hy]at ba bs
    obtain⟨kd,⟨ds,id,bG,sr,bb,sp,dp⟩,bo,tk⟩:=a;have cf:tk<18446744073709551616:=br.fC;have d0:wr.cell? ⟨ab,off+j*10,none⟩=some (.int .u8 kd):=d 0 _ rfl;have d1:wr.cell? ⟨ab,off+j*10+1,none⟩=some (.int .u8 ds):=d 1 _ rfl;have d2:wr.cell? ⟨ab,off+j*10+2,none⟩=some (.int .u16 id):=d 2 _ rfl;have d3:wr.cell? ⟨ab,off+j*10+3,none⟩=some (.int .u8 bG):=d 3 _ rfl;have d4:wr.cell? ⟨ab,off+j*10+4,none⟩=some (.int .u32 sr):=d 4 _ rfl;have d5:wr.cell? ⟨ab,off+j*10+5,none⟩=some (.int .u32 bb):=d 5 _ rfl;have d6:wr.cell? ⟨ab,off+j*10+6,none⟩=some (.int .u16 sp):=d 6 _ rfl;have d7:wr.cell? ⟨ab,off+j*10+7,none⟩=some (.int .u16 dp):=d 7 _ rfl;have d8:wr.cell? ⟨ab,off+j*10+8,none⟩=some (.string bo):=d 8 _ rfl;have d9:wr.cell? ⟨ab,off+j*10+9,none⟩=some (.int .u64 tk):=d 9 _ rfl;simp only[iW]at ba;have bv:=aa ba;have cg:=aa (P.out.renew (.cells #[.int .u8 kd,.int .u8 ds,.int .u16 id,.int .u8 bG,.int .u32 sr,.int .u32 bb,.int .u16 sp,.int .u16 dp,.string bo,.int .u64 tk] 44));have f:=aa (ag.new wr [.int .u8 kd,.int .u8 ds,.int .u16 id,.int .u8 bG,.int .u32 sr,.int .u32 bb,.int .u16 sp,.int .u16 dp,.string bo,.int .u64 tk] 44);have cW:=aa bs;have cX:=aa cf;clear d ba hy bs ha br V P cf;go_upto_block 2 with(fail)
    generalize wr.alloc (.cells #[.int .u8 kd,.int .u8 ds,.int .u16 id,.int .u8 bG,.int .u32 sr,.int .u32 bb,.int .u16 sp,.int .u16 dp,.string bo,.int .u64 tk] 44)=wx at*;generalize wr.heap.size=q0 at*;clear d0 d1 d2 d3 d4 d5 d6 d7 d8 d9;have P:=cg;clear cg;have hN:64*j<=1000000:=by omega
    go_cut [] (λwc=>Hid (iF w da dd p M (64*(j+1)) q0 wc))
    case first=>
     have b0:=f.out.ai;have b3:=f.out.ea;have b1:=f.out.aj;have b2:=f.out.aq;have b4:=f.out.aK;have b5:=f.out.a_;have b6:=f.out.bN;have b7:=f.out.du;have b8:=f.out.eN;have b9:=f.out.eu;have ch:((kd:Int)%8=0\/(kd:Int)%8=1\/(kd:Int)%8=2\/(kd:Int)%8=3)\/(kd:Int)%8=7\/((kd:Int)%8=4\/(kd:Int)%8=5\/(kd:Int)%8=6):=by omega
     rcases ch with B|B|B
     ·have hsz:y.size<=100000:=by have:=cW.out;omega
      rcases B with B|B|B|B;all_goals
       have X:=aa (HC (Value.int .u8) B);go_wp2_with fail;refine(bv.out _).mono ?_;rintro e w2 ⟨rfl,k2⟩;have bc:=aa (f.out.kp k2 (λx=>x));obtain⟨r1,r2,cj⟩:=GJ cG.out (P.out.old k2) hsz;have be:=aa cj;clear k2 cj b0 b1 b2 b3 b4 b5 b6 b7 b8 b9;go_wp2_with fail;refine be.out.mono ?_;rintro e w3 ⟨rfl,D,bw⟩;rcases bw with⟨dk,m⟩|⟨rfl,A,m⟩|⟨rfl,rfl,hb⟩
       ·have n:=aa m;clear m D be P f bc;go_wp2_with fail;try rw[<-X.out]
        go_roundg (l.length-(j+1))
        case measure=>have:=bq.out;omega
        case rel=>exact⟨j+1,q0,by omega,by go_num,rfl,n⟩
       ·have n:=aa m;have c9:¬(r1:Int)=(p:Int):=by omega
        clear m D be P f bc;go_wp2_with fail;try rw[<-X.out]
        go_roundg (l.length-(j+1))
        case measure=>have:=bq.out;omega
        case rel=>exact⟨j+1,q0,by omega,by go_num,rfl,n⟩
       ·have F:=D _ _ bc.out;have ck:=aa hb;have b0:=F.ai;have b3:=F.ea;have b1:=F.aj;have b2:=F.aq;have b4:=F.aK;have b5:=F.a_;have b6:=F.bN;have b7:=F.du;have b8:=F.eN;have b9:=F.eu;clear hb D be P f bc F;go_wp2_with fail;refine(bv.out _).mono ?_;rintro e w4 ⟨rfl,k4⟩;have cl:=aa (ck.out _ k4);clear k4 ck b0 b1 b2 b3 b4 b5 b6 b7 b8 b9;go_wp2_with fail;refine cl.out.mono ?_;rintro e w5 ⟨rfl,m⟩;have n:=aa m;clear m cl;go_wp2_with fail;try rw[<-X.out]
        go_meet;exact n
     ·have X:=aa (HC (Value.int .u8) B);have cm:=aa (CT cG.out P.out hN cX.out);clear b0 b1 b2 b4 b5 b6 b7 b8 b9;go_wp2_with fail;refine cm.out.mono ?_;rintro e w2 ⟨rfl,D,ht⟩;have b3:=(D _ _ f.out).ea;have cn:=aa (ht w2 (Kp.refl _ _));clear D ht cm P f;go_wp2_with fail;refine cn.out.mono ?_;rintro e w3 ⟨rfl,m⟩;have n:=aa m;clear m cn;go_wp2_with fail;try rw[<-X.out]
      go_meet;exact n
     ·have cq:=aa (CU cG.out P.out hN);clear b0 b1 b2 b3 b4 b5 b6 b7 b8 b9;rcases B with B|B|B;all_goals
       have X:=aa (HC (Value.int .u8) B);go_wp2_with fail;refine cq.out.mono ?_;rintro e w2 ⟨va,O,rfl,cs,hO,aQ⟩;have ct:=aa (Dk O p va w2 hO cs);have aR:=aa aQ;clear cs hO aQ cq P f;go_wp2_with fail;refine ct.out.mono ?_;rintro e w3 ⟨v1,rfl,aS,C⟩;have aT:=aa (aR.out w3 C);have aw:=aa aS;have cY:=aa C.size;clear ct aR C aS;go_wp2_with fail;refine aT.out.mono ?_;rintro e w4 ⟨vb,O2,rfl,aU,cu,heq,hlen,m,cv⟩;have A:=au aw.out cv (λb e e2=>by have:=(an aw.out e).1;omega);obtain⟨dm,dq,rfl⟩:∃ao cap,vb=.slice ao O2.length cap:=by obtain⟨_,_,ao,cap,rfl,_⟩:=aU;exact⟨_,_,rfl⟩
       have af:=aa (Dk O2 p _ w4 cu aU);have n:=aa m;obtain⟨L,hL⟩:∃L,cB p O2=L:=⟨_,rfl⟩
       rw[heq,hL]at A
       rw[hL]at hlen af
       rw[<-hlen];rw[<-hlen]at af
       have cw:=aa A;have bz:Hid (L.length<=512):=aa (by omega);clear aw aT cY aU cu heq hlen m cv A hL;go_wp2_with fail;refine af.out.mono ?_;rintro e w5 ⟨v2,rfl,Y,G⟩;have A:=au cw.out G (λ_ _ x=>x);obtain⟨s1,c1,rfl⟩:=aN A;obtain⟨s2,cH,rfl⟩:=aN Y;have aw:=aa A;have cx:=aa Y;have aP:=aa (n.out.old G);clear A Y G af cw n;go_wp2_with fail;go_loopw [89] (λi0 wr=>∃k:Nat,i0=.int .i64 k/\k<=L.length/\Hid (Kp ae w5 wr)) (λi0 _=>L.length-(intOf i0).toNat)
       case atStart=>exact⟨0,rfl,Hv _,aa (Kp.refl _ _)⟩
       case round=>
        obtain⟨k,rfl,hk,aV⟩:=hrel;obtain⟨wo,cZ⟩:∃wo:World,wo=wr:=⟨_,rfl⟩
        subst cZ;by_cases bA:k<L.length
        ·have cy:(k:Int)<L.length:=by omega
         have A:=au aw.out aV.out (λ_ _ x=>x);have bB:=au cx.out aV.out (λ_ _ x=>x);obtain⟨g1,cap1,e1,_⟩:=aY A (by omega);obtain⟨g2,c_,e2,_⟩:=aY bB (by omega);injection e1 with e1 _ e3;subst e1 e3;injection e2 with e1 _ e3;subst e1 e3;have c1:=bu A k (u:=.string L[k]) (kx _ _ bA);have cH:=bu bB k (u:=.string L[k]) (kx _ _ bA);obtain⟨x,hx⟩:∃x,L[k]=x:=⟨_,rfl⟩
         rw[hx]at c1 cH
         clear A bB hx;go_upto_region 19 with(fail)
         refine ar 8 (by kernel_rfl) (λ_ _ _ _ _ h=>h) ?_;simp only[aO]
         repeat((first
             |refine ay (by rfl) (by as_aux_lemma=>intro W hK;have e0:=hK.cell c1 (λx=>x);have e1:=hK.cell cH (λx=>x);have e2:=cy;go_simp;exact rfl) ?_
             |refine ah (by rfl) ?_);simp only[Act.put,aH])
         intro W2 cz;have cA:=aa (aV.out.trans cz);have dr:=bz.out;clear c1 cH cz;go_wp2_with fail;go_roundw
         case rel=>exact⟨k+1,by go_num,by omega,cA⟩
         case measure=>simp[intOf];omega
        ·have c0:k=L.length:=by omega
         subst c0;have cy:¬(L.length:Int)<L.length:=by omega
         have n:=aa (aP.out.old aV.out);clear aP aV aw cx bA;go_wp2_with fail;try rw[<-X.out]
         go_meet;exact n
    case rest=>
     have H:=hcut;obtain⟨bx,sc,hA,hB,hS,aW⟩:=Ff cG.out H.out (by omega);have bU:=aa hA;have dc:=aa hB;have cC:=aa hS;have cD:=aa aW;clear hcut H P f bv hA hB hS aW;go_wp2_with fail;refine bU.out.mono ?_;rintro e w6 ⟨rfl,rfl⟩;clear bU;go_wp2_with fail;refine dc.out.mono ?_;rintro e w6 ⟨rfl,rfl⟩;clear dc;go_wp2_with fail;refine cC.out.mono ?_;rintro e w6 ⟨rfl,cE⟩;have aT:=aa (cE w6 (Kp.refl _ _));clear cE cC;go_wp2_with fail;refine aT.out.mono ?_;rintro e w7 ⟨rfl,m⟩;have n:=aa m;have aW:=cD.out;clear m aT cD;go_wp2_with fail;go_roundg (l.length-(j+1))
     case measure=>have:=bq.out;omega
     case rel=>exact⟨j+1,q0,by omega,by go_num,rfl,n⟩
   ·have c3:j=l.length:=by omega
    subst c3;have cV:¬(l.length:Int)<l.length:=by omega
    have cF:=aa (bh.out wr P.out.kp);have c4:=aa P.out.kp;clear P a9;go_wp2_with fail;refine cF.out.mono ?_;rintro e w4 ⟨rfl,s⟩;have aB:=aa (ax.out w4 (c4.out.trans s));clear s;go_wp2_with fail;exact aB.out
end
end Go.Proofs.YtincjochpkdnfaaGreatDoor
