/- How an argument's reading gives its cells, and the frame of a law's row: names no function of the program. -/
import Derived.Test.YtincjochpkdnfaaGreatDoorV0
import Derived.ProofKit
import Derived.OpenShut
import Derived.Deep.Strs
import Derived.StillTail
import Derived.Deep.MidRow
import Derived.Test.YtincjochpkdnfaaGreatDoorProg
set_option linter.all false
namespace Go.Proofs.YtincjochpkdnfaaGreatDoor
section
open Go.RowKit Go.Deep Go.ChangeShapes Go.WideShapes Go.ChangeAt
def add_plain(b off j:Nat):(⟨b,off,none⟩:Addr).add j=⟨b,off+j,none⟩:=by unfold Addr.add;split<;>simp_all
def sL{w:World}{a:Addr}{v:Value}(h:w.cell? a=some v):a=⟨a.block,a.off,none⟩:=by
 obtain⟨b,o,s⟩:=a;cases s with
 |none=>rfl
 |some s=>unfold World.cell? at h;split at h<;>simp at h
def flat_get{α:Type}(enc:α->List Value)(sz:Nat)(b:∀a,(enc a).length=sz)(l:List α)(j i:Nat)(hi:i<sz):(l.flatMap enc)[j*sz+i]? =(l[j]?).bind (λa=>(enc a)[i]?):=by
 induction l generalizing j with
 |nil=>simp
 |cons a r c=>
  cases j with
  |zero=>simp only[Iv,Nat.zero_mul,HR];rw[Jf (by rw[b];exact hi)];simp
  |succ j=>
   rw[Iv,Jg (by rw[b,Jh];omega),b,show(j+1)*sz+i-sz=j*sz+i by rw[Jh];omega,c];simp
def cA{α:Type}(enc:α->List Value)(sz:Nat)(b:∀a,(enc a).length=sz)(l:List α):(l.flatMap enc).length=l.length*sz:=by
 induction l with
 |nil=>simp
 |cons a r c=>simp only[Iv,HK,b,c,Hs,Jh];omega
def Sl.at{w:World}{v:Value}{n sz:Nat}{α:Type}{enc:α->List Value}{l:List α}(h:Sl w v n sz (l.flatMap enc))(c:∀a,(enc a).length=sz)(hp:0<sz)(j:Nat)(m:j<l.length):
    ∃b off cap,v=.slice (some ⟨b,off,none⟩) n cap/\∀i u,(enc l[j])[i]? =some u->w.cell? ⟨b,off+j*sz+i,none⟩=some u:=by
 obtain⟨p,cap,rfl,f⟩:=h.is;have g:∀i u,(enc l[j])[i]? =some u->(l.flatMap enc)[j*sz+i]? =some u:=λi u hu=>by
  rw[flat_get enc sz c l j i (by have:=(HD.1 hu).1;rw[c]at this;exact this),Hn m];exact hu
 obtain⟨u0,d⟩:∃u,(enc l[j])[0]? =some u:=⟨(enc l[j])[0]'(by rw[c];exact hp),by simp⟩
 obtain⟨b,off,rfl,_⟩:=f _ _ (g 0 u0 d);refine⟨b,off,cap,rfl,λi u hu=> ?_⟩;obtain⟨q,k,e,o⟩:=f _ _ (g i u hu);cases e;rw[Ky];exact o
section
variable {H:Type} {enc:TypeId×Value->H} {P:Program} {w:World} {base:Nat} {spare:Nat->Bool} {held:Bool}
def gn{t e:TypeId}{fuel:Nat}{cs:List Value}{x:DataW H×List MemPlace}(ht:P.underlying t=some (.slice e)){sz:Nat}(hsz:P.cellsOf e=sz)(hp:0<sz){α:Type}[Inhabited α](en:α->List Value)(ok:α->Prop)(c:∀a,(en a).length=sz)
    (flat:∀n cs x,DataW.trod enc P w base spare held n e cs=some x->∃a,ok a/\cs=en a) (h:DataW.trod enc P w base spare held fuel t cs=some x):
    ∃(v:Value) (l:List α),cs=[v]/\(∀a∈l,ok a)/\Sl w v l.length sz (l.flatMap en):=by
 rcases open_slice ht h with⟨rfl,_⟩|⟨a,len,cap,m,n,D,G,rfl,I,s,hm,g,_,z⟩
 ·exact⟨_,[],rfl,by simp,Sl.nil w sz⟩
 ·have A:len<=m:=by rw[g];split<;>omega
  have j:∀i,i<len->∃y:α,ok y/\w.cells? base (a.add (i*sz)) sz=some (en y):=λi hi=>by
   obtain⟨B,o,p⟩:=z i (by omega);obtain⟨y,hy,rfl⟩:=flat _ _ _ p;rw[hsz]at o
   exact⟨y,hy,o⟩
  obtain⟨f,hf⟩:=choose_lt j;refine⟨_,(List.range len).map f,rfl,λy hy=> ?_,⟨?_,?_,some a,cap,?_,λi u hu=> ?_⟩⟩
  ·obtain⟨i,hi,rfl⟩:=Hw.1 hy;exact(hf i (H7.1 hi)).1
  ·exact cA en sz c _
  ·simp;unfold maxLen at hm;omega
  ·simp
  ·have hi:i<len*sz:=by
    have:=(HD.1 hu).1;rw[cA en sz c]at this;simpa using this
   have k:i/sz<len:=(Ka hp).2 hi;have q:i%sz<sz:=Iw _ hp;have b:i/sz*sz+i%sz=i:=by rw[IY];exact I8 i sz
   rw[<-b,flat_get en sz c _ _ _ q]at hu
   simp[k]at hu
   obtain⟨_,p,C⟩:=World.cells?_some (hf (i/sz) k).2;have r:=C (i%sz) q;have ha:a=⟨a.block,a.off,none⟩:=by
    obtain⟨_,_,E⟩:=World.cells?_some (hf 0 (IL (Hv _) k)).2;have d:=E 0 hp;have F:=c (f 0);rw[Hn (by omega)]at d
    rw[Nat.zero_mul]at d
    have:(a.add 0).add 0=a:=by simp[Addr.add]
    rw[this]at d
    exact sL d
   refine⟨a.block,a.off,by rw[<-ha],?_⟩;rw[ha,add_plain,add_plain]at r
   rw[<-b,<-Ky,r];simpa using hu
def ho{t:TypeId}{fs:Array Field}{fuel:Nat}{cs:List Value}{x:DataW H×List MemPlace}(ht:P.underlying t=some (.struct fs))(hsz:P.cellsOf t=fs.size)(a:fs.toList.zipIdx.all (λp=>p.1.offset==p.2)=true)(g:∀f∈fs.toList,P.cellsOf f.type=1)
    (h:DataW.trod enc P w base spare held fuel t cs=some x):cs.length=fs.size/\∀(i:Nat) (f:Field) (v:Value),fs[i]? =some f->cs[i]? =some v->∃n y,DataW.trod enc P w base spare held n f.type [v]=some y:=by
 obtain⟨xs,n,_,_,j,hlen,hf⟩:=Jv ht h;refine⟨by rw[j,hsz],λi f v hi d=> ?_⟩;have b:=hf i f hi;have k:f.offset=i:=by
  have l:=HV.1 a (f,i) (by
   rw[List.mem_iff_getElem?];exact⟨i,by rw[List.getElem?_zipIdx];simp[hi]⟩)
  simpa using l
 rw[k,g f (by have:=Kz hi;simpa using this)]at b
 have c:i<cs.length:=(HD.1 d).1;have e:(cs.drop i).take 1=[v]:=by
  rw[Ii c,(HD.1 d).2];rfl
 rw[e]at b
 have m:i<xs.length:=by rw[hlen];exact(Ih.1 hi).1
 rw[Hn m]at b
 exact⟨n,_,b⟩
def uf(k:laidOutB P=true):∀ {a:List TypeId} {e:List Value} {ds:List (DataW H)} {c:List MemPlace} {W f:World},DataW.TrodAll enc P W 0 (λ_=>true) true a e ds c->Below W.heap.size W f->
    (∀x∈c,x.block<W.heap.size)->(∀t∈a,P.readableRec t=true/\t<P.types.size)->DataW.TrodAll enc P f 0 (λb=>decide (b<W.heap.size)) true a e ds c:=by
 intro a;induction a with
 |nil=>
  intro e ds c W f h _ _ _;obtain⟨rfl,rfl,rfl⟩:=trodAll_nil h;exact trodAll_mk0
 |cons t a l=>
  intro e ds c W f h j d g;obtain⟨v0,m,d0,n,q,r,rfl,rfl,rfl,o,p⟩:=trodAll_cons h;refine trodAll_cons_mk (Below.trod k (g t (by simp)).1 (g t (by simp)).2 o j (λx i=>d x (Hu.2 (.inl i)))) (l p j (λx i=>d x (Hu.2 (.inr i))) (λt ht=>g t (Iz _ ht)))
end
def qj{H:Type}{enc:TypeId×Value->H}{P:Program}{s:ChangeSpec}{f:Func}{apart fresh:Bool}{W e:World}{args:Array Value}{ds gs:List (DataW H)}{before:List MemPlace}(T:TypeId)(l:P.underlying T=some .bool)(a:f.resultTypes=#[T])
    (m:laidOutB P=true) (n:∀t∈f.params.toList,P.readableRec t=true/\t<P.types.size)
    (g:s.vars=[]) (i:DataW.Whole enc P f.params.toList s.vars apart W args.toList ds gs before) (c:(s.fn H (ds++[]))= {results:=[.lit (.bool true)],args:=ds}) (j:Below W.heap.size W e):
    s.post enc P f apart fresh false false W args (.bool true) e:=by
 have b:=i;obtain⟨p,q,o,k,rfl,r,u⟩:=i;rw[g]at k
 obtain⟨rfl,rfl⟩:=trodVars_none k;have d:∀x∈p,x.block<W.heap.size:=λx v=>by simpa using b.lt x (Hu.2 (.inl v))
 refine⟨ds,[],p++[],[],p,[],b,?_,?_,?_,j.frame _,λh=>by cases h⟩
 ·rw[c,a];exact trodAll_cons_mk (shut_bool l true) trodAll_mk0
 ·rw[c];exact uf m o j d n
 ·rw[c,g];rfl
end
section
open Go.RowKit
def aY{w:World}{base:Nat}{e:TypeId}{size:Nat}{v:Value}{n:Nat}{xs:List Value}(h:w.ownsRow base e size v n xs)(c:0<n):∃g cap,v=.slice (some ⟨g,0,none⟩) n cap/\base<=g:=by
 rcases h.2 with⟨_,h⟩|⟨g,cap,cur,a,b,_⟩
 ·omega
 ·exact⟨g,cap,a,b⟩
def bu{w:World}{base:Nat}{e:TypeId}{size:Nat}{n g cap:Nat}{xs:List Value}(h:w.ownsRow base e size (.slice (some ⟨g,0,none⟩) n cap) n xs)(i:Nat){u:Value}(hu:xs[i]? =some u):w.cell? ⟨g,i,none⟩=some u:=by
 obtain⟨k,a,d,f⟩:=(gG h).is;obtain⟨b,off,j,c⟩:=f i u hu;cases d;cases j;rw[HR]at c;exact c
def gH{w:World}{base:Nat}{e:TypeId}{size:Nat}{n g cap:Nat}{xs:List Value}(h:w.ownsRow base e size (.slice (some ⟨g,0,none⟩) n cap) n xs)(i:Nat):w.frozen? ⟨g,i,none⟩=false:=by
 rcases h.2 with⟨h,_⟩|⟨d,a,cur,b,_,c,_⟩
 ·cases h
 ·cases b;simp[World.frozen?,c]
def iG{w:World}{base:Nat}{e:TypeId}{size:Nat}{n g cap:Nat}{xs:List Value}(h:w.ownsRow base e size (.slice (some ⟨g,0,none⟩) n cap) n xs)(j:Nat)(u:Value):(w.setCell ⟨g,j,none⟩ u).ownsRow base e size (.slice (some ⟨g,0,none⟩) n cap) n (xs.set j u):=(h.stored j u).1
def cG{w:World}{base:Nat}{e:TypeId}{size:Nat}{v:Value}{n:Nat}{xs:List Value}(h:w.ownsRow base e size v n xs){a:Addr}(c:∀b,v.ownBlock=some b->b≠a.block)(u:Value):(w.setCell a u).ownsRow base e size v n xs:=by
 refine⟨h.1,?_⟩;rcases h.2 with h|⟨g,cap,cur,rfl,d,f,r⟩
 ·exact .inl h
 ·exact .inr ⟨g,cap,cur,rfl,d,(J_ _ _ _ _ (c g rfl)).trans f,r⟩
def iH{w:World}{base:Nat}{e:TypeId}{size:Nat}{v:Value}{n:Nat}{xs:List Value}(h:w.ownsRow base e size v n xs){b:Nat}(a:v.ownBlock=some b):∃cur,w.heap[b]? =some (.cells cur e (0,0)):=by
 rcases h.2 with⟨rfl,_⟩|⟨g,cap,cur,rfl,d,c,r⟩
 ·cases a
 ·cases a;exact⟨cur,c⟩
def aA{w:World}{base:Nat}{e:TypeId}{size:Nat}{v:Value}{n:Nat}{xs:List Value}(h:w.ownsRow base e size v n xs){b:Nat}{cs:List Value}{t:TypeId}(a:ag w b cs t)(ht:t≠e):v.ownBlock≠some b:=λc=>by
 obtain⟨cur,d⟩:=iH h c;have:=a.is.symm.trans d;simp at this;exact ht this.2
def jW{w:World}{base a:Nat}{e i:TypeId}{size c:Nat}{v j:Value}{n n':Nat}{xs d:List Value}(h:w.ownsRow base e size v n xs)(l:w.ownsRow a i c j n' d)(ht:e≠i):∀b,v.ownBlock=some b->j.ownBlock≠some b:=λb m f=>by
 obtain⟨cur,o⟩:=iH h m;obtain⟨k,g⟩:=iH l f;have:=o.symm.trans g;simp at this;exact ht this.2
def e3{w:World}{b c:Nat}{cs a:List Value}{t d:TypeId}(h:ag w b cs t)(f:ag w c a d)(ht:t≠d):b≠c:=λe=>by subst e;exact ht (h.inj f).2
def cL(l:List Value)(o:Nat):List Value->List Value
 | []=>l
 |v::r=>cL (l.set o v) (o+1) r
def fA(a:List Value):∀(l:List Value) (o i:Nat),o+a.length<=l.length->(cL l o a)[i]? =if o<=i/\i<o+a.length then a[i-o]? else l[i]? :=by
 induction a with
 |nil=>intro l o i _;simp[cL];intro b c;omega
 |cons v r d=>
  intro l o i h;simp only[Hs]at h;rw[cL,d _ _ _ (by simp;omega)];by_cases b:o+1<=i/\i<o+1+r.length
  ·rw[Hl b,Hl ⟨by omega,by simp;omega⟩];rw[show i-o=(i-(o+1))+1 by omega];simp
  ·rw[Hk b];by_cases c:i=o
   ·subst c;rw[Hl ⟨by omega,by simp⟩,H8 (by omega)];simp
   ·rw[Hk (by simp;omega),HL (λe=>c e.symm)]
def eD{α:Type}(en:α->List Value)(sz:Nat)(b:∀a,(en a).length=sz)(l:List α)(j:Nat)(a:α)(f:j<l.length):(l.set j a).flatMap en=cL (l.flatMap en) (j*sz) (en a):=by
 apply IZ;intro i;have hlen:=cA en sz b l;have c:j*sz+sz<=l.length*sz:=by rw[<-Jh];exact I0 _ f
 rw[fA _ _ _ _ (by rw[hlen,b];exact c),b];by_cases o:sz=0
 ·subst o;have g:∀m:List α,m.flatMap en=[]:=λm=>IA (by rw[cA en 0 b m];simp);rw[g,g];simp
 ·have h:i%sz<sz:=Iw _ (by omega);have d:i/sz*sz+i%sz=i:=by rw[IY];exact I8 i sz
  have k:=flat_get en sz b (l.set j a) (i/sz) (i%sz) h;have n:=flat_get en sz b l (i/sz) (i%sz) h;rw[d]at k n
  rw[k,n];by_cases e:i/sz=j
  ·have c1:j*sz<=i/\i<j*sz+sz:=by rw[<-e];omega
   rw[Hl c1,e,H8 f];have:i-j*sz=i%sz:=by rw[<-e];omega
   rw[this];rfl
  ·rw[Hk,HL (λz=>e z.symm)];rintro⟨a1,a2⟩;apply e;have b1:i/sz<j+1:=(Ka (by omega)).2 (by rw[Jh];exact a2);have b2:j<=i/sz:=(Nat.le_div_iff_mul_le (by omega)).2 a1;omega
def oG{α:Type}(en:α->List Value)(sz:Nat)(b:∀a,(en a).length=sz)(l:List α)(i:Nat)(a c:α)(j:Nat)(v:Value)(n:j<sz)(hi:l[i]? =some c)(ha:en a=(en c).set j v):(l.set i a).flatMap en=(l.flatMap en).set (i*sz+j) v:=by
 have d:=(HD.1 hi).1;have hlen:=cA en sz b l;have f:i*sz+sz<=l.length*sz:=by rw[<-Jh];exact I0 _ d
 rw[eD en sz b l i a d];apply IZ;intro k;rw[fA _ _ _ _ (by rw[hlen,b];exact f),b];by_cases g:i*sz<=k/\k<i*sz+sz
 ·rw[Hl g,ha];obtain⟨m,rfl⟩:∃m,k=i*sz+m:=⟨k-i*sz,by omega⟩
  rw[Kb];by_cases h:m=j
  ·subst h;rw[H8 (by rw[b];omega),H8 (by omega)]
  ·rw[HL (λe=>h e.symm),HL (by omega),flat_get en sz b l i m (by omega),hi];rfl
 ·rw[Hk g,HL (by omega)]
def fk{P:Program}{t e:TypeId}{z:Value}{size bytes:Nat}(T:gL P t e z size bytes){ops:Array Oper}{rest:List Oper}{o:Oper}{a:Act}{Q:Exit->Act->World->Prop}{w:World}(s x:Operand)
    (p:o.guard=none) (C:o.op=.call {callee:=.builtin .append,args:=#[s,x],argTypes:=#[t,t]}) (base:Nat) {v:Value} {n:Nat} {xs:List Value} (l:w.ownsRow base e size v n xs)
    {b c:Nat} (news:List Value) (D:a.eval s=v) (E:a.eval x=.slice (some ⟨b,0,none⟩) 1 c) (F:news.length=size) {fr:Nat×Nat} (m:w.heap[b]? =some (.cells news.toArray e fr)) (G:news.all (·.oneCell')=true)
    (f:(n+1)*bytes<=140737488355328) (H:n<9223372036854775807) (k:base<=w.heap.size)
    (h:∀g cap w',w'.ownsRow base e size (.slice (some ⟨g,0,none⟩) (n+1) cap) (n+1) (xs++news)->w.grownBy w' v.ownBlock->v.ownBlock=some g\/g=w.heap.size->wpList P ops Q rest (a.put o.dst (.slice (some ⟨g,0,none⟩) (n+1) cap)) w'):wpList P ops Q (o::rest) a w:=by
 obtain⟨i,hi,q,r,y⟩:=Ju T.info;refine wpList_append_own_at w p s x t C base e i z size bytes T.ht hi q r y T.hz T.pos v n xs D l ⟨b,0,none⟩ 1 c news E (by simpa using F) ?_ (by simpa using G) (by unfold maxLen;omega) f k ?_
 ·intro j u hu;have e:(⟨b,0,none⟩:Addr).add j=⟨b,j,none⟩:=by unfold Addr.add;split<;>simp_all
  rw[e];simp[World.cell?,m,hu]
 ·intro J w' d I B A;rcases d.2 with⟨_,K⟩|⟨g,cap,cur,rfl,_⟩
  ·omega
  ·exact h g cap w' d I (by rcases A with e|e;(exact .inl (e.symm.trans rfl));exact .inr (by simpa[Value.ownBlock]using e))
def yp{P:Program}{t e:TypeId}{z:Value}{size bytes:Nat}(T:gL P t e z size bytes){ops:Array Oper}{rest:List Oper}{o:Oper}{a:Act}{Q:Exit->Act->World->Prop}{w:World}(s x:Operand)
    (p:o.guard=none) (A:o.op=.call {callee:=.builtin .append,args:=#[s,x],argTypes:=#[t,t]}) (base:Nat) {v:Value} {n:Nat} {xs:List Value} (k:w.ownsRow base e size v n xs)
    {b off m c:Nat} (news:List Value) (B:a.eval s=v) (C:a.eval x=.slice (some ⟨b,off,none⟩) m c) (D:news.length=m*size) (f:∀j u,news[j]? =some u->w.cell? ⟨b,off+j,none⟩=some u) (E:news.all (·.oneCell')=true)
    (d:(n+m)*bytes<=140737488355328) (F:n+m<=9223372036854775807) (g:base<=w.heap.size)
    (h:∀l w',w'.ownsRow base e size l (n+m) (xs++news)->w.grownBy w' v.ownBlock->wpList P ops Q rest (a.put o.dst l) w'):wpList P ops Q (o::rest) a w:=by
 obtain⟨i,hi,q,r,y⟩:=Ju T.info;refine Kx w p s x t A base e i z size bytes T.ht hi q r y T.hz T.pos v n xs B k ⟨b,off,none⟩ m c news C D ?_ (by simpa using E) (by unfold maxLen;omega) d g (λl w' a1 a2 _=>h l w' a1 a2);intro j u hu;have e:(⟨b,off,none⟩:Addr).add j=⟨b,off+j,none⟩:=by unfold Addr.add;split<;>simp_all
 rw[e];exact f j u hu
end
section
open Go Go.RowKit
def gM(P:Program)(ops:Array Oper)(o:Oper)(v:Value)(a:Act):Prop:=
 (Region.wanted o (yielded ops a.tmps)=true/\∀w,(execOp a.eval o).run P w=.ok (.value v) w\/∃f args,(execOp a.eval o).run P w=.ok (.enter f args) w/\Calls P f args w λe w'=>e=.returned v/\w=w')\/
 (Region.wanted o (yielded ops a.tmps)=false/\v=undef)
variable {P:Program} {ops:Array Oper} {Q:Exit->Act->World->Prop} {md:Region.Mode}
def gM.wpOp{i:Nat}{o:Oper}{v:Value}{a:Act}(hi:ops[i]? =some o)(hy:gM P ops o v a){K:Act->World->Prop}{w:World}(h:K (a.put o.dst v) w):Go.wpOp P ops Q i K a w:=by
 unfold Go.wpOp;simp only[hi];rcases hy with⟨hw,b⟩|⟨hw,rfl⟩
 ·rw[Hl hw];refine .inl ?_;unfold Oper.wp;rcases b w with e|⟨f,args,e,c⟩
  ·rw[e];exact h
  ·rw[e];refine JM c λx w' d=> ?_;obtain⟨rfl,rfl⟩:=d;exact h
 ·rw[Hk (by rw[hw];simp)];exact h
def gM.alike{o:Oper}{v:Value}{a a':Act}(hy:gM P ops o v a)(he:execOp a'.eval o=execOp a.eval o)(hw:Region.wanted o (yielded ops a'.tmps)=Region.wanted o (yielded ops a.tmps)):gM P ops o v a':=by
 unfold gM at*;rw[he,hw];exact hy
def gM.swap{j:Nat}{g i:Oper}{v:Value}(x:ops[j]? =some i)(n:g.apart ops i=true)(o:∀cs b,g.op≠.select cs b)(m:∀cs b,i.op≠.select cs b)
    (s:∀c a d u w,Q (.panic c) (Act.put a d u) w->Q (.panic c) a w) {K:Act->World->Prop} {a:Act} {w:World} (hy:gM P ops g v a) (h:Go.wpOp P ops Q j K (a.put g.dst v) w):
    Go.wpOp P ops Q j (λa' w'=>gM P ops g v a'/\K (a'.put g.dst v) w') a w:=by
 obtain⟨p,l,t⟩:=KA n;have stays:∀(b:Act),gM P ops g v b->∀u,gM P ops g v (b.put i.dst u):=λb y u=>y.alike (Jw g o b i.dst u t) (JN g b i.dst u t);have k:∀d,gM P ops g v {a with defers:=d::a.defers}:=λd=>hy.alike rfl rfl;unfold Go.wpOp at*;simp only[x]at*;rw[JN i a g.dst v p]at h
 by_cases hw:Region.wanted i (yielded ops a.tmps)=true
 ·rw[Hl hw]at h ⊢
  rcases h with h|⟨g1,g2⟩
  ·refine .inl ?_;unfold Oper.wp at*;rw[Jw i m a g.dst v p]at h
   generalize (execOp a.eval i).run P w=r at*;match r,h with
   | .ok (.value u) w',h=>exact⟨stays a hy u,by rw[<-I9 a v u l];exact h⟩
   | .ok .skip w',h=>exact⟨stays a hy _,by rw[<-I9 a v undef l];exact h⟩
   | .ok (.defer d) w',h=>exact⟨stays _ (k d) _,by rw[<-I9 _ v undef l,<-Act.put_defers];exact h⟩
   | .ok (.row row args) w',h=>exact Rows.mono h λu q he=>⟨stays a hy u,by rw[<-I9 a v u l];exact he⟩
   | .ok (.enter f args) w',h=>
    refine JM h λe q he=> ?_;match e,he with
    | .returned u,he=>exact⟨stays a hy u,by rw[<-I9 a v u l];exact he⟩
    | .panicked c,he=>exact s _ _ _ _ _ he
    | .outgrown,he=>exact he
   | .halt (.panic u) w',h=>exact s _ _ _ _ _ h
  ·exact .inr ⟨by unfold Oper.asks at*;rw[Jw i m a g.dst v p]at g1;exact g1,g2⟩
 ·rw[Hk hw]at h ⊢
  exact⟨stays a hy _,by rw[<-I9 a v undef l];exact h⟩
def ug{listed:Array Bool}{i:Nat}(b:listed.getD i true=false)(a:listed.getD i false=true):False:=by
 rcases HW i listed.size with h|h
 ·simp[h]at b a;rw[b]at a;cases a
 ·simp[Array.getElem?_eq_none h]at a
def jX{i:Nat}{r:Oper}{v:Value}(hi:ops[i]? =some r)(g:∀(j:Nat) (o:Oper) cs b,ops[j]? =some o->o.op≠.select cs b)(C:∀c a d u w,Q (.panic c) (Act.put a d u) w->Q (.panic c) a w):
    ∀(fuel:Nat) (listed:Array Bool) (a:Act) (w:World),
     (∀j n,ops[j]? =some n->j≠i->listed.getD j true=false->(∀e∈n.after,Region.binds md e=true->e.on≠i)->r.apart ops n=true)->
     i∈Region.ready md ops listed->gM P ops r v a->wpAny P md ops Q fuel (listed.setIfInBounds i true) (a.put r.dst v) w->wpAny P md ops Q (fuel+1) listed a w
 |0,listed,a,w,_,p,hy,H=>by
  refine⟨λh=>(by rw[h]at p;cases p),λj y=> ?_⟩;by_cases f:j=i
  ·subst f;exact hy.wpOp hi H
  ·have:=ready_mono y f;rw[H.1]at this;cases this
 |fuel+1,listed,a,w,l,p,hy,H=>by
  refine⟨λh=>(by rw[h]at p;cases p),λj y=> ?_⟩;by_cases f:j=i
  ·subst f;exact hy.wpOp hi H
  ·have E:=H.2 j (ready_mono y f);obtain⟨m,n,q,s⟩:=IB.1 y;have t:∀e∈n.after,Region.binds md e=true->e.on≠i:=λe he F heq=>ug (IB.1 p).1 (heq▸s e he F);have G:=gM.swap q (l j n q f m t) (λcs b=>g i r cs b hi) (λcs b=>g j n cs b q) C hy E;refine wpOp_mono (λa' w' D=>jX hi g C fuel (listed.setIfInBounds j true) a' w' (λk ok I z A B=>l k ok I z ?_ B) (ready_mono p (Ne.symm f)) D.1 ?_) G
   ·by_cases x:j=k
    ·subst x;exact m
    ·rwa [I_ true x]at A
   ·rw[Array.setIfInBounds_comm _ _ f];exact D.2
def hM(P:Program)(ops:Array Oper)(C:Act->Prop):List Oper->Act->Prop
 | [],a=>C a
 |o::rest,a=>∃v,gM P ops o v a/\hM P ops C rest (a.put o.dst v)
def ib{C:Act->Prop}{o:Oper}{rest:List Oper}{a:Act}{v:Value}(hw:Region.wanted o (yielded ops a.tmps)=true)(b:∀W,(execOp a.eval o).run P W=.ok (.value v) W)(c:hM P ops C rest (a.put o.dst v)):hM P ops C (o::rest) a:=
 ⟨v,.inl ⟨hw,λW=>.inl (b W)⟩,c⟩
def ja{C:Act->Prop}{o:Oper}{rest:List Oper}{a:Act}(hw:Region.wanted o (yielded ops a.tmps)=false)(b:hM P ops C rest (a.put o.dst undef)):hM P ops C (o::rest) a:=
 ⟨undef,.inr ⟨hw,rfl⟩,b⟩
end
section
open Go Go.RowKit
def gp(P:Program)(ops:Array Oper)(w0:World)(o:Oper)(v:Value)(a:Act):Prop:=
 (Region.wanted o (yielded ops a.tmps)=true/\∀w,Kp ae w0 w->(execOp a.eval o).run P w=.ok (.value v) w\/(∃f args,(execOp a.eval o).run P w=.ok (.enter f args) w/\Calls P f args w λe w'=>e=.returned v/\Kp ae w w')\/((execOp a.eval o).run P w=.ok .skip w/\v=undef))\/
 (Region.wanted o (yielded ops a.tmps)=false/\v=undef)
variable {P:Program} {ops:Array Oper} {Q:Exit->Act->World->Prop} {md:Region.Mode}
def gp.wpOp{w0:World}{i:Nat}{o:Oper}{v:Value}{a:Act}(hi:ops[i]? =some o)(hy:gp P ops w0 o v a){K:Act->World->Prop}{w:World}(b:Kp ae w0 w)(h:∀w',Kp ae w0 w'->K (a.put o.dst v) w'):Go.wpOp P ops Q i K a w:=by
 unfold Go.wpOp;simp only[hi];rcases hy with⟨hw,d⟩|⟨hw,rfl⟩
 ·rw[Hl hw];refine .inl ?_;unfold Oper.wp;rcases d w b with e|⟨f,args,e,g⟩|⟨e,rfl⟩
  ·rw[e];exact h w b
  ·rw[e];refine JM g λx w' j=> ?_;obtain⟨rfl,c⟩:=j;exact h w' (b.trans c)
  ·rw[e];exact h w b
 ·rw[Hk (by rw[hw];simp)];exact h w b
def gp.alike{w0:World}{o:Oper}{v:Value}{a a':Act}(hy:gp P ops w0 o v a)(he:execOp a'.eval o=execOp a.eval o)(hw:Region.wanted o (yielded ops a'.tmps)=Region.wanted o (yielded ops a.tmps)):gp P ops w0 o v a':=by
 unfold gp at*;rw[he,hw];exact hy
def cC(P:Program)(ops:Array Oper)(w0:World)(C:Act->Prop):List Nat->Act->Prop
 | [],a=>C a
 |i::r,a=>∃o v,ops[i]? =some o/\gp P ops w0 o v a/\cC P ops w0 C r (a.put o.dst v)
def fB(P:Program)(ops:Array Oper)(C:Act->Prop):List Nat->Act->Prop
 | [],a=>C a
 |i::r,a=>∃o v,ops[i]? =some o/\gM P ops o v a/\fB P ops C r (a.put o.dst v)
def cC.out{w0:World}{C:Act->Prop}{i:Nat}{o:Oper}(hi:ops[i]? =some o)(c:∀(j:Nat) (o:Oper) cs b,ops[j]? =some o->o.op≠.select cs b)(post:List Nat):∀(pre:List Nat) (a:Act),
    (∀p∈pre,∀op,ops[p]? =some op->op.apart ops o=true)->cC P ops w0 C (pre++i::post) a->∃v,gp P ops w0 o v a/\cC P ops w0 C (pre++post) (a.put o.dst v)
 | [],a,_,h=>by
  obtain⟨n,v,d,g,k⟩:=h;have:n=o:=Option.some.inj (d.symm.trans hi);subst this;exact⟨v,g,k⟩
 |p::pre,a,e,h=>by
  obtain⟨op,f,d,g,k⟩:=h;obtain⟨v,r,s⟩:=cC.out hi c post pre _ (λq t=>e q (Iz _ t)) k;obtain⟨a1,a2,a3⟩:=KA (e p HX op d);have l:=λcs b=>c i o cs b hi;have m:=λcs b=>c p op cs b d;refine⟨v,r.alike (Jw o l a op.dst f a1).symm (JN o a op.dst f a1).symm,op,f,d,g.alike (Jw op m a o.dst v a3) (JN op a o.dst v a3),?_⟩;rw[<-I9 a f v a2];exact s
def uh(md:Region.Mode)(ops:Array Oper)(E:List Nat)(n:Nat):Bool:=
 (List.range n).all λi=>E.contains i||(List.range (n+1)).any λj=>decide (i<j)&&Region.waitsFor md ops j i
def rB{E:List Nat}{n:Nat}{listed:Array Bool}(z:uh md ops E n=true)(A:Region.chainB md ops n=true)(G:n<ops.size)(inv:HeadInv md ops n listed)(B:∀e∈E,listed.getD e false=true):
    ∀(d i:Nat),n-i=d->i<n->listed.getD i true=false->∀t,n<=t->t∉Region.ready md ops listed:=by
 intro d;induction d using Nat.strongRecOn with
 |_ d C=>
  intro i hd hi g t ht u;obtain⟨_,v,h,c⟩:=IB.1 u;have k:t<ops.size:=(Ih.1 h).1;by_cases p:t=n
  ·subst p;have a:=HV.1 z i (H7.2 hi);rw[I1]at a
   rcases a with a|a
   ·have:=B i (by simpa using a);rw[getD_both g]at this;cases this
   ·obtain⟨j,D,l⟩:=JO.1 a;simp only[HS,HI]at l;obtain⟨w,m,e,he,o,b⟩:=Region.waitsFor_spec l.2;have x:j<=t:=by have:=H7.1 D;omega
    by_cases q:j=t
    ·subst q;have:w=v:=Option.some.inj (m.symm.trans h);subst this;have f:=c e he o;rw[b,getD_both g]at f
     cases f
    ·cases y:listed.getD j false with
     |true=>
      have f:=inv.closed j w m y e he o;rw[b,getD_both g]at f
      cases f
     |false=>
      have r:j<listed.size:=by rw[inv.size];omega
      exact C (t-j) (by omega) j rfl (by omega) (getD_in r y) t (Hm _) u
  ·have a:=HV.1 A t (H7.2 k);simp only[I1,HI]at a;rcases a with a|a
   ·omega
   ·obtain⟨F,s,e,he,o,b⟩:=Region.waitsFor_spec a;have:F=v:=Option.some.inj (s.symm.trans h);subst this;have f:=c e he o;rw[b,getD_both (inv.tail (t-1) (by omega) (by omega))]at f
    cases f
def mM(md:Region.Mode)(ops:Array Oper):Bool:=
 (List.range ops.size).all λj=>match ops[j]? with|some a=>a.after.all λe=> !Region.binds md e||decide (e.on<j)|none=>true
def gN(h:mM md ops=true)(j:Nat)(a:Oper)(b:ops[j]? =some a):∀e∈a.after,Region.binds md e=true->e.on<j:=by
 intro e he d;have c:=HV.1 h j (H7.2 (Ih.1 b).1);simp only[b]at c;have f:=KB.1 c e he;simpa[d]using f
def kt(md:Region.Mode)(ops:Array Oper)(n:Nat):Bool:=
 (List.range n).all λi=>(List.range i).all λp=>Region.waitsFor md ops i p||match ops[p]?,ops[i]? with|some op,some a=>op.apart ops a|_,_=>true
def jb{n:Nat}(h:kt md ops n=true)(p i:Nat)(op b:Oper)(c:p<i)(hi:i<n)(k:ops[p]? =some op)(j:ops[i]? =some b)(d:∀e∈b.after,Region.binds md e=true->e.on≠p):op.apart ops b=true:=by
 have a:=HV.1 (HV.1 h i (H7.2 hi)) p (H7.2 c);rw[I1]at a
 rcases a with a|a
 ·obtain⟨l,f,e,he,m,g⟩:=Region.waitsFor_spec a;have:l=b:=Option.some.inj (f.symm.trans j);subst this;exact absurd g (d e he m)
 ·simpa[k,j]using a
def c_{listed:Array Bool}{i:Nat}(hi:i<listed.size)(h:¬listed.getD i true=false):listed.getD i false=true:=by
 simp[hi]at h ⊢;exact h
def sM{w0:World}{n g:Nat}{E:List Nat}{C:Act->Prop}(A:Region.noSelect ops=true)(V:uh md ops E n=true)(W:Region.chainB md ops n=true)(X:n<ops.size)(hd:mM md ops=true)(hp:kt md ops n=true)
    (Y:∀listed a w,listed.size=ops.size->(∀i,i<n->listed.getD i false=true)->(∀t,n<=t->t<ops.size->listed.getD t true=false)->C a->Kp ae w0 w->wpAny P md ops Q g listed a w):
    ∀(m:Nat) (R:List Nat) (listed:Array Bool) (a:Act) (w:World),R.length=m->R.Pairwise (·< ·)->(∀i∈R,i<n)->(∀i,i<n->(listed.getD i true=false↔i∈R))->(∀e∈E,listed.getD e false=true)->HeadInv md ops n listed->Kp ae w0 w->
     cC P ops w0 C R a->wpAny P md ops Q (m+g) listed a w:=by
 intro m;induction m with
 |zero=>
  intro R listed a w B _ _ l I inv J h;have:R=[]:=IA B;subst this;rw[HR];exact Y listed a w inv.size (λi hi=>c_ (by rw[inv.size];omega) (λK=>by have:=(l i hi).1 K;cases this)) inv.tail h J
 |succ m Z=>
  intro R listed a w B b k l I inv J h;obtain⟨d,R',rfl⟩:∃d R',R=d::R':=by cases R with|nil=>simp at B|cons r R'=>exact⟨_,_,rfl⟩
  have D:d<n:=k d HX;have q:listed.getD d true=false:=(l d D).2 HX;rw[show m+1+g=(m+g)+1 by omega];refine⟨λK=> ?_,λi hi=> ?_⟩
  ·have:d∈Region.ready md ops listed:=by
    obtain⟨o,U⟩:∃o,ops[d]? =some o:=⟨_,KC (by omega)⟩
    refine IB.2 ⟨q,o,U,λe he L=> ?_⟩;have ac:=gN hd d o U e he L;refine c_ (by rw[inv.size];omega) (λf=> ?_);have hm:=(l e.on (by omega)).1 f;rcases Ho.1 hm with H|H
    ·omega
    ·have:=(HJ.1 b).1 _ H;omega
   rw[K]at this;cases this
  ·have u:i<n:=by
    rcases HW i n with f|f
    ·exact f
    ·exact absurd hi (rB V W X inv I _ d rfl D q i f)
   obtain⟨M,oi,x,F⟩:=IB.1 hi;have hm:=(l i u).1 M;obtain⟨pre,post,N⟩:=KD hm;rw[N]at h b l k B
   have s:∀p∈pre,p<i:=λp hp=>(IN.1 b).2.2 p hp i HX;have y:∀p∈post,i<p:=λp hp=>(HJ.1 (IN.1 b).2.1).1 p hp
   obtain⟨v,e1,e2⟩:=cC.out x (Jx A) post pre a (λp z op O=>jb hp p i op oi (s p z) u O x (λe he L heq=>by
    have f:=F e he L;have H:=(l p (k p (IF _ z))).2 (IF _ z)
    rw[heq,getD_both H]at f;cases f)) h
   have c:(pre++post).Sublist (pre++i::post):=List.Sublist.append_left (KE _ _) _;refine e1.wpOp x J (λw' S=>Z (pre++post) _ _ w' (by simp at B ⊢;omega) (b.sublist c) (λj T=>k j (c.subset T)) (λj T=> ?_) (λe he=>getD_set_true (I e he)) (inv.set hi u) S e2);by_cases G:i=j
   ·subst G;have f:(listed.setIfInBounds i true).getD i true=true:=by
     have:i<listed.size:=by rw[inv.size];omega
     simp[this]
    rw[f];refine⟨λh=>(by cases h),λh=> ?_⟩;rcases Hu.1 h with h|h
    ·have:=s _ h;omega
    ·have:=y _ h;omega
   ·rw[I_ true G,l j T];constructor
    ·intro h;rcases Hu.1 h with h|h
     ·exact IF _ h
     ·rcases Ho.1 h with h|h
      ·omega
      ·exact KF _ h
    ·intro h;exact c.subset h
def jY(ops:Array Oper)(E:List Nat):Array Bool:=E.foldl (λl e=>l.setIfInBounds e true) (Array.replicate ops.size false)
def oj(md:Region.Mode)(ops:Array Oper):List Nat->Array Bool->Bool
 | [],_=>true
 |k::r,listed=>(Region.ready md ops listed).contains k&&Region.free md ops listed k&&oj md ops r (listed.setIfInBounds k true)
def lU{g:Nat}{C:Act->Prop}{w:World}(f:Region.noSelect ops=true)(i:∀c a d u w,Q (.panic c) (Act.put a d u) w->Q (.panic c) a w):
    ∀(E:List Nat) (listed:Array Bool) (a:Act),oj md ops E listed=true->(∀a,C a->wpAny P md ops Q g (E.foldl (λl e=>l.setIfInBounds e true) listed) a w)->fB P ops C E a->wpAny P md ops Q (E.length+g) listed a w
 | [],listed,a,_,b,h=>by simpa using b a h
 |k::E,listed,a,j,b,h=>by
  obtain⟨o,v,m,n,p⟩:=h;simp only[oj,HS]at j;obtain⟨⟨b1,b2⟩,q⟩:=j;have:=lU f i E (listed.setIfInBounds k true) (a.put o.dst v) q (λa r=>b a r) p;rw[Hs,show E.length+1+g=(E.length+g)+1 by omega];exact jX m (Jx f) i _ _ _ _ (Region.free_spec m b2) (by simpa using b1) n this
def jZ:List Nat->Bool
 |a::b::r=>decide (a<b)&&jZ (b::r)
 |_=>true
def il:∀(l:List Nat),jZ l=true->l.Pairwise (·< ·)
 | [],_=>List.Pairwise.nil
 | [a],_=>K7 _ _
 |a::b::r,h=>by
  simp only[jZ,HS,HI]at h;have e:=il (b::r) h.2;refine HJ.2 ⟨λc d=> ?_,e⟩;rcases Ho.1 d with rfl|d
  ·exact h.1
  ·exact Nat.lt_trans h.1 ((HJ.1 e).1 c d)
def gI(ops:Array Oper)(n:Nat):Array Bool:=(List.range ops.size).toArray.map λi=>decide (i<n)
def rC(md:Region.Mode)(ops:Array Oper)(E K:List Nat)(n:Nat):Bool:=
 Region.noSelect ops&&decide (n<ops.size)&&uh md ops E n&&Region.chainB md ops n&&mM md ops&&kt md ops n&&oj md ops E (Array.replicate ops.size false)&&jZ K&&K.all (λk=>decide (k<n))&&
 ((List.range n).all λi=>(jY ops E).getD i true== !K.contains i)&&E.all (λe=>(jY ops E).getD e false)&&decide ((jY ops E).size=ops.size)&&((List.range ops.size).all λt=>decide (t<n)|| !(jY ops E).getD t true)&&
 ((List.range ops.size).all λj=> !(jY ops E).getD j false||match ops[j]? with|some a=>a.after.all λe=> !Region.binds md e||(jY ops E).getD e.on false|none=>true)&&
 Region.seqB md ops (ops.size-n) n (gI ops n)&&decide (E.length+K.length=n)
def n_{id:Nat}{a:Act}{w:World}{l:List Oper}(E K:List Nat)(n:Nat)(hm:P.follows .mixedOrders=true)(G:rC .any l.toArray E K n=true)
    (J:∀c a d u w,Q (.panic c) (Act.put a d u) w->Q (.panic c) a w)
    (h:fB P l.toArray (cC P l.toArray w (λa'=>∀W,Kp ae w W->wpList P l.toArray Q (l.drop n) a' W) K) E a):(Code.region id l.toArray true).wp P Q a w:=by
 simp only[rC,HS,HI]at G;obtain⟨⟨⟨⟨⟨⟨⟨⟨⟨⟨⟨⟨⟨⟨⟨b1,b2⟩,L⟩,M⟩,N⟩,O⟩,R⟩,b8⟩,S⟩,r⟩,s⟩,v⟩,x⟩,y⟩,z⟩,wQ⟩:=G;have hsz:l.toArray.size=l.length:=by simp
 refine wp_region_any hm ?_;have o:HeadInv .any l.toArray n (jY l.toArray E):=by
  refine⟨v,λj Z H T e he U=> ?_,λt ht A=> ?_⟩
  ·have b:=HV.1 y j (H7.2 (Ih.1 H).1);simp only[H,T,JP,Bool.false_or]at b;have B:=KB.1 b e he;simpa[U]using B
  ·have b:=HV.1 x t (H7.2 A);rw[HN (by omega),Bool.false_or]at b
   simpa using b
 have f:=lU (P:=P) (md:=.any) (ops:=l.toArray) (Q:=Q) (w:=w.drew) (g:=K.length+(l.toArray.size-n)) b1 J E (Array.replicate l.toArray.size false) a R (λa' V=>
  sM (E:=E) b1 L M b2 N O (λlisted C w' I b B D X=>by
   have p:listed=gI l.toArray n:=by
    apply JL
    ·simp[gI,I]
    ·intro i k Y;have F:i<l.toArray.size:=by rw[<-I];exact k
     simp only[gI,Kc,Kd,Ip,List.getElem_range];by_cases m:i<n
     ·have:=b i m;simp[k]at this;rw[this,Hz m]
     ·have:=B i (by omega) F;simp[k]at this;rw[this,HN m]
   subst p;have q:(l.drop n).length=l.toArray.size-n:=by simp
   have:=wpAny_of_seq (P:=P) (md:=.any) (ops:=l.toArray) (Q':=Q) (l.drop n) n (gI l.toArray n) C w' (λj=>by simp[Ke]) (by rw[q];exact z) (D w' X)
   rwa [q]at this) K.length K (jY l.toArray E) a' w.drew rfl (il K b8) (λi hi=>by simpa using HV.1 S i hi) (λi hi=>by
    have b:=HV.1 r i (H7.2 hi);rw[Iq]at b
    rw[b];simp) (λe he=>HV.1 s e he) o (Kp.refl ae w).drew V) h
 rw[show E.length+(K.length+(l.toArray.size-n))=l.toArray.size by omega]at f
 exact f
def aF{P:Program}{f:FuncId}{args:Array Value}{w:World}{v:Ending}(h:Calls P f args w λe w'=>e=v/\w=w'):Calls P f args w λe w'=>e=v/\Kp ae w w':=
 h.mono λ_ _ ⟨he,hw⟩=>⟨he,hw▸Kp.refl ae w⟩
def pick(l:List Oper):List Nat->List Oper
 | []=>[]
 |k::r=>match l[k]? with
  |some o=>o::pick l r
  |none=>pick l r
def dJ(P:Program)(ops:Array Oper)(w0:World)(C:Act->Prop):List Oper->Act->Prop
 | [],a=>C a
 |o::r,a=>∃v,gp P ops w0 o v a/\dJ P ops w0 C r (a.put o.dst v)
def im{w0:World}{C:Act->Prop}{l:List Oper}:∀(K:List Nat) (a:Act),K.all (λk=>decide (k<l.length))=true->dJ P l.toArray w0 C (pick l K) a->cC P l.toArray w0 C K a
 | [],a,_,h=>h
 |k::K,a,b,h=>by
  simp only[JQ,HS,HI]at b;have c:l[k]? =some l[k]:=Hn b.1;simp only[pick,c]at h;obtain⟨v,d,e⟩:=h;exact⟨l[k],v,by rw[KG];exact c,d,im K _ b.2 e⟩
def j0{C:Act->Prop}{l:List Oper}:∀(K:List Nat) (a:Act),K.all (λk=>decide (k<l.length))=true->hM P l.toArray C (pick l K) a->fB P l.toArray C K a
 | [],a,_,h=>h
 |k::K,a,b,h=>by
  simp only[JQ,HS,HI]at b;have c:l[k]? =some l[k]:=Hn b.1;simp only[pick,c]at h;obtain⟨v,d,e⟩:=h;exact⟨l[k],v,by rw[KG];exact c,d,j0 K _ b.2 e⟩
def fB.mono{C C':Act->Prop}(b:∀a,C a->C' a):∀(E:List Nat) (a:Act),fB P ops C E a->fB P ops C' E a
 | [],a,h=>b a h
 |_::E,_,⟨o,v,c,d,e⟩=>⟨o,v,c,d,fB.mono b E _ e⟩
def df{id:Nat}{a:Act}{w:World}{l:List Oper}(E K:List Nat)(n:Nat)(hm:P.follows .mixedOrders=true)(b:(rC .any l.toArray E K n&&E.all (λk=>decide (k<l.length))&&K.all (λk=>decide (k<l.length)))=true)
    (e:∀c a d u w,Q (.panic c) (Act.put a d u) w->Q (.panic c) a w)
    (h:hM P l.toArray (λa'=>dJ P l.toArray w (λa'=>∀W,Kp ae w W->wpList P l.toArray Q (l.drop n) a' W) (pick l K) a') (pick l E) a):(Code.region id l.toArray true).wp P Q a w:=by
 simp only[HS]at b;obtain⟨⟨b1,b2⟩,f⟩:=b;exact n_ E K n hm b1 e (fB.mono (λa' g=>im K a' f g) E a (j0 E a b2 h))
def nF(l:List Oper):∀(n s:Nat),s+n<=l.length->pick l (List.range' s n)=(l.drop s).take n
 |0,_,_=>rfl
 |n+1,s,h=>by
  have a:s<l.length:=by omega
  rw[List.range'_succ];unfold pick;rw[Hn a,Ii a,Ku,<-nF l n (s+1) (by omega)]
def ar{id:Nat}{a:Act}{w:World}{l:List Oper}(n:Nat)(b:(P.follows .mixedOrders&&(rC .any l.toArray [] (List.range n) n&&decide (n<=l.length)))=true)(e:∀c t g f w,Q (.panic c) ⟨t,f⟩ w->Q (.panic c) ⟨g,f⟩ w)
    (h:dJ P l.toArray w (λa'=>∀W,Kp ae w W->wpList P l.toArray Q (l.drop n) a' W) (l.take n) a):(Code.region id l.toArray true).wp P Q a w:=by
 simp only[HS,HI]at b;obtain⟨b1,b2,j⟩:=b;refine df [] (List.range n) n b1 ?_ (λc ⟨t,f⟩ d u w h=>by cases d with|none=>exact h|some k=>exact e c _ t f w h) ?_
 ·simp only[HS,List.all_nil,and_true];exact⟨b2,HV.2 λk i=>Hz (by have:=H7.1 i;omega)⟩
 ·rw[List.range_eq_range',nF l n 0 (by omega)];exact h
def ay{w0:World}{C:Act->Prop}{r:List Oper}{o:Oper}{a:Act}{v:Value}(hw:Region.wanted o (yielded ops a.tmps)=true)(b:∀W,Kp ae w0 W->(execOp a.eval o).run P W=.ok (.value v) W)(c:dJ P ops w0 C r (a.put o.dst v)):dJ P ops w0 C (o::r) a:=
 ⟨v,.inl ⟨hw,λW d=>.inl (b W d)⟩,c⟩
def aR{w0:World}{C:Act->Prop}{r:List Oper}{o:Oper}{a:Act}{v:Value}{f:FuncId}{args:Array Value}(hw:Region.wanted o (yielded ops a.tmps)=true)(b:∀W,(execOp a.eval o).run P W=.ok (.enter f args) W)
    (c:∀W,Kp ae w0 W->Calls P f args W λe w'=>e=.returned v/\Kp ae W w') (d:dJ P ops w0 C r (a.put o.dst v)):dJ P ops w0 C (o::r) a:=
 ⟨v,.inl ⟨hw,λW g=>.inr (.inl ⟨f,args,b W,c W g⟩)⟩,d⟩
def bc{w0:World}{C:Act->Prop}{r:List Oper}{o:Oper}{a:Act}{v:Value}(hw:Region.wanted o (yielded ops a.tmps)=true)(b:∀W,Kp ae w0 W->(execOp a.eval o).run P W=.ok (.value v) W)(c:dJ P ops w0 C r (a.put o.dst v)):dJ P ops w0 C (o::r) a:=
 ⟨v,.inl ⟨hw,λW d=>.inl (b W d)⟩,c⟩
def ui{w0:World}{C:Act->Prop}{r:List Oper}{o:Oper}{a:Act}{v:Value}{f:FuncId}{args:Array Value}(hw:Region.wanted o (yielded ops a.tmps)=true)(b:∀W,(execOp a.eval o).run P W=.ok (.enter f args) W)
    (c:∀W,Kp ae w0 W->Calls P f args W λe w'=>e=.returned v/\Kp ae W w') (d:dJ P ops w0 C r (a.put o.dst v)):dJ P ops w0 C (o::r) a:=
 ⟨v,.inl ⟨hw,λW g=>.inr (.inl ⟨f,args,b W,c W g⟩)⟩,d⟩
def ah{w0:World}{C:Act->Prop}{r:List Oper}{o:Oper}{a:Act}(hw:Region.wanted o (yielded ops a.tmps)=false)(b:dJ P ops w0 C r (a.put o.dst undef)):dJ P ops w0 C (o::r) a:=
 ⟨undef,.inr ⟨hw,rfl⟩,b⟩
end
section
open Go Go.RowKit
def wR{S:Nat->Prop}{a w:World}(h:Kp S a w){g:Nat}(b:S g\/a.heap.size<=g)(cs:Array Value):Kp S a (w.setRow g cs):=
 ⟨h.os,h.tape,h.output,by rw[size_setRow];exact h.size,λi hi c=>(setRow_other w g i cs (λe=>by subst e;rcases b with b|b;(exact c b);omega)).trans (h.block i hi c)⟩
def uj{w:World}{g:Nat}{old cs:List Value}{t:TypeId}(h:ag w g old t):ag (w.setRow g cs.toArray) g cs t:=⟨setRow_heap w g _ _ t _ h.is⟩
def rD{w:World}{g b:Nat}{cs:List Value}{t:TypeId}(h:ag w b cs t)(a:b≠g)(x:Array Value):ag (w.setRow g x) b cs t:=⟨(setRow_other w g b x a).trans h.is⟩
def vL{cs:List Value}(h:∀v∈cs,v.oneCell'=true):cs.toArray.all (·.oneCell')=true:=by
 rw[KB];intro x a;exact h x (by simpa using a)
def b0{P:Program}{ops:Array Oper}{rest:List Oper}{o:Oper}{a:Act}{Q:Exit->Act->World->Prop}(e:o.guard=none)(ty:TypeId)(x y:Operand)(l:o.op=.store ty x y){w:World}{g:Nat}{old:List Value}{t:TypeId}(i:ag w g old t)(cs:List Value)
    (m:a.eval x=.pointer (some ⟨g,0,none⟩)) (hy:a.eval y=.agg cs.toArray) (hi:(P.info? ty).map (·.size)=some cs.length) (hold:old.length=cs.length) (n:∀v∈cs,v.oneCell'=true)
    (h:∀d,ag d g cs t->(∀b c j,ag w b c j->b≠g->ag d b c j)->(∀(S:Nat->Prop) a,Kp S a w->(S g\/a.heap.size<=g)->Kp S a d)->wpList P ops Q rest (a.put o.dst undef) d):wpList P ops Q (o::rest) a w:=
 wpList_store_row e ty x y l g cs.toArray m hy t old.toArray i.is (by rw[HY];exact hi) (by rw[HY,HY];exact hold) (vL n)
    (h _ (uj i) (λ_ _ _ k f=>rD k f _) (λ_ _ k p=>wR k p _))
def dc{P:Program}{ops:Array Oper}{rest:List Oper}{o:Oper}{a:Act}{w:World}{Q:Exit->Act->World->Prop}(b:o.guard=none)(ty:TypeId)(x:Operand)(c:o.op=.load ty x){g:Nat}{cs:List Value}{t:TypeId}(e:ag w g cs t)(d:TypeDesc)
    (f:a.eval x=.pointer (some ⟨g,0,none⟩)) (hu:P.underlying ty=some d) (hd:(match d with| .struct _| .array _ _=>true|_=>false)=true) (hi:(P.info? ty).map (·.size)=some cs.length)
    (h:wpList P ops Q rest (a.put o.dst (.agg cs.toArray)) w):wpList P ops Q (o::rest) a w:=
 wpList_load_row b ty x c g f t cs.toArray (0,0) d e.is hu hd (by rw[HY];exact hi) h
def k4{g:Nat}{t:TypeId}:∀(a:List Value) (o:Nat) (w:World) (old:List Value),ag w g old t->ag (w.setCells g o a) g (cL old o a) t
 | [],_,_,_,h=>h
 |v::r,o,_,_,h=>k4 r (o+1) _ _ (h.set o v)
def jL{g b:Nat}{cs:List Value}{t:TypeId}(c:b≠g):∀(d:List Value) (o:Nat) (w:World),ag w b cs t->ag (w.setCells g o d) b cs t
 | [],_,_,h=>h
 |v::r,o,_,h=>jL c r (o+1) _ (h.bJ (a:=⟨g,o,none⟩) c v)
def eE{S:Nat->Prop}{a:World}{g:Nat}(b:S g\/a.heap.size<=g):∀(c:List Value) (o:Nat) (w:World),Kp S a w->Kp S a (w.setCells g o c)
 | [],_,_,h=>h
 |v::r,o,_,h=>eE b r (o+1) _ (h.set (p:=⟨g,o,none⟩) b v)
def ev{P:Program}{ops:Array Oper}{rest:List Oper}{op:Oper}{a:Act}{Q:Exit->Act->World->Prop}(e:op.guard=none)(ty:TypeId)(x y:Operand)(m:op.op=.store ty x y){w:World}{g:Nat}{old:List Value}{t:TypeId}(f:ag w g old t)(o:Nat)(cs:List Value)
    (n:a.eval x=.pointer (some ⟨g,o,none⟩)) (hy:a.eval y=.agg cs.toArray) (hi:(P.info? ty).map (·.size)=some cs.length) (p:o+cs.length<=old.length) (q:∀v∈cs,v.oneCell'=true)
    (h:∀d,ag d g (cL old o cs) t->(∀b c l,ag w b c l->b≠g->ag d b c l)->(∀(S:Nat->Prop) a,Kp S a w->(S g\/a.heap.size<=g)->Kp S a d)->wpList P ops Q rest (a.put op.dst undef) d):wpList P ops Q (op::rest) a w:=by
 refine wpList_store_mid e ty x y m g o cs.toArray n hy ?_ (by rw[HY];exact hi) (vL q) ?_
 ·intro j r;rw[HY]at r
  refine⟨?_,f.fz _⟩;rw[f.cell (o+j) (Hn (show o+j<old.length by omega))];rfl
 ·exact h _ (k4 _ _ _ _ f) (λ_ _ _ k i=>jL i _ _ _ k) (λ_ _ k s=>eE s _ _ _ k)
def wS{P:Program}{ops:Array Oper}{rest:List Oper}{o:Oper}{a:Act}{w:World}{Q:Exit->Act->World->Prop}(b:o.guard=none)(t:TypeId)(parts:Array (Nat×Operand))(c:o.op=.build t parts)(v:Value)
    (d:(Instr.build t (parts.map λ(i,x)=>(i,a.eval x))).run P w=.ok v w) (h:wpList P ops Q rest (a.put o.dst v) w):wpList P ops Q (o::rest) a w:=
 Kf b λ_ e=>by
  unfold Oper.wp execOp;simp only[c,IG,d,IC,IP];exact e _ _ h
def iI{P:Program}{f:Func}{s:Tmp}{ty:TypeId}(hf:f.results=#[.cell s ty]){R:Ending->World->Prop}{W:World}{g:Nat}{cs:List Value}{t:TypeId}{T:Array Value}(a:ag W g cs t)(d:TypeDesc)(hu:P.underlying ty=some d)(hd:(match d with| .struct _| .array _ _=>true|_=>false)=true)
    (hi:(P.info? ty).map (·.size)=some cs.length) (b:T.getD s undef=.pointer (some ⟨g,0,none⟩)) (c:R (.returned (.agg cs.toArray)) W):bodyPost P f R Exit.ret {tmps:=T,defers:=[]} W:=
 HT (v:=.agg cs.toArray) (results_cell_row hf T W g t cs.toArray (0,0) d b a.is hu hd (by rw[HY];exact hi)) rfl c
def cO{P:Program}{f:Func}{s u:Tmp}{ty:TypeId}(hf:f.results=#[.cell s ty,.tmp u]){R:Ending->World->Prop}{W:World}{g:Nat}{cs:List Value}{t:TypeId}{T:Array Value}(b:ag W g cs t)(d:TypeDesc)(hu:P.underlying ty=some d)(hd:(match d with| .struct _| .array _ _=>true|_=>false)=true)
    (hi:(P.info? ty).map (·.size)=some cs.length) (c:T.getD s undef=.pointer (some ⟨g,0,none⟩)) (e:R (.returned (.tuple #[.agg cs.toArray,T.getD u undef])) W):bodyPost P f R Exit.ret {tmps:=T,defers:=[]} W:=by
 refine HT (v:=.tuple #[.agg cs.toArray,T.getD u undef]) ?_ rfl e;have a:T[s]?.getD undef=.pointer (some ⟨g,0,none⟩):=by simpa using c
 simp[results,hf,a,asAddr,Jy W g t ty cs.toArray (0,0) d b.is hu hd (by rw[HY];exact hi)]
end
section
open Go Go.RowKit
variable {P:Program} {ops:Array Oper} {Q:Exit->Act->World->Prop} {md:Region.Mode}
def gp.later{w0 w1:World}{o:Oper}{v:Value}{a:Act}(hy:gp P ops w0 o v a)(b:Kp ae w0 w1):gp P ops w1 o v a:=by
 rcases hy with⟨hw,c⟩|h
 ·exact .inl ⟨hw,λw k=>c w (b.trans k)⟩
 ·exact .inr h
def cC.later{w0 w1:World}{C C':Act->Prop}(b:Kp ae w0 w1)(c:∀a,C a->C' a):∀(R:List Nat) (a:Act),cC P ops w0 C R a->cC P ops w1 C' R a
 | [],a,h=>c a h
 |_::R,_,⟨o,v,d,e,f⟩=>⟨o,v,d,e.later b,cC.later b c R _ f⟩
def cC.put{w0:World}{C:Act->Prop}{s:Nat}{os:Oper}(e:ops[s]? =some os)(c:∀(j:Nat) (o:Oper) cs b,ops[j]? =some o->o.op≠.select cs b)(v:Value):∀(R:List Nat) (a:Act),
    (∀p∈R,∀op,ops[p]? =some op->op.apart ops os=true)->cC P ops w0 (λa'=>C (a'.put os.dst v)) R a->cC P ops w0 C R (a.put os.dst v)
 | [],_,_,h=>h
 |p::R,a,d,⟨op,i,f,k,l⟩=>by
  obtain⟨a1,a2,a3⟩:=KA (d p HX op f);have g:=λcs b=>c p op cs b f;refine⟨op,i,f,k.alike (Jw op g a os.dst v a3) (JN op a os.dst v a3),?_⟩;have:=cC.put e c v R _ (λq m=>d q (Iz _ m)) l;rw[I9 a i v a2]at this
  exact this
def ic{w0:World}{C:Act->Prop}{r:List Oper}{o:Oper}{a:Act}(hw:Region.wanted o (yielded ops a.tmps)=true)(t:TypeId)(parts:Array (Nat×Operand))(b:o.op=.build t parts)(v:Value)
    (c:∀W,(Instr.build t (parts.map λ(i,x)=>(i,a.eval x))).run P W=.ok v W) (d:dJ P ops w0 C r (a.put o.dst v)):dJ P ops w0 C (o::r) a:=
 ⟨v,.inl ⟨hw,λW _=>.inl (by unfold execOp;simp only[b,IG,c,IC,IP])⟩,d⟩
def fm{w0:World}{b:Nat}{cs:List Value}{t:TypeId}(h:ag w0 b cs t){ty:TypeId}(d:TypeDesc)(hu:P.underlying ty=some d)(hd:d.isRow=true)(hi:(P.info? ty).map (·.size)=some cs.length)
    {o:Oper} {x:Operand} {a:Act} (c:o.op=.load ty x) (e:a.eval x=.pointer (some ⟨b,0,none⟩)):∀W,Kp ae w0 W->(execOp a.eval o).run P W=.ok (.value (.agg cs.toArray)) W:=λW f=>by
 have g:=run_loadAt_mid W b 0 ty cs d (λj v i=>by rw[HR];exact(h.kp f (λx=>x)).cell j i) hu hd hi;unfold execOp;simp only[c,e,IG,IP,IC,g]
end
section
open Go Go.RowKit
variable {P:Program} {ops:Array Oper} {Q:Exit->Act->World->Prop} {md:Region.Mode}
def p6{w0:World}{o:Oper}{v:Value}{a:Act}(c:∃x k,o.op=.extract x k)(h:gp P ops w0 o v a):gM P ops o v a:=by
 obtain⟨x,k,c⟩:=c;rcases h with⟨hw,g⟩|h
 ·refine .inl ⟨hw,λw=>.inl ?_⟩;have b:=g w0 (Kp.refl _ _);unfold execOp at b ⊢;simp only[c,Instr.extract]at b ⊢;generalize a.eval x=y at b ⊢;cases y with
  |tuple i=>
   simp only at b ⊢;cases d:i[k]? with
   |some u=>
    simp only[d,IG,IP,IC]at b ⊢;rcases b with e|⟨f,args,e,_⟩|⟨e,_⟩
    ·cases e;rfl
    ·cases e
    ·cases e
   |none=>
    simp only[d]at b;rcases b with e|⟨f,args,e,_⟩|⟨e,_⟩<;>cases e
  |_=>
   simp only at b;rcases b with e|⟨f,args,e,_⟩|⟨e,_⟩<;>cases e
 ·exact .inr h
def uk:Op->Bool
 | .extract _ _=>true
 |_=>false
def rE(md:Region.Mode)(ops:Array Oper)(n:Nat)(L:List Nat):Prop:=
 (∀i∈L,∀o,ops[i]? =some o->∃x k,o.op=.extract x k)/\
 (∀i∈L,∀o,ops[i]? =some o->∀j a,ops[j]? =some a->(n<=j\/j∈L)->j≠i->(∀e∈a.after,Region.binds md e=true->e.on≠i)->o.apart ops a=true)
def yq(md:Region.Mode)(ops:Array Oper)(n:Nat)(L:List Nat):Bool:=
 L.all λi=>match ops[i]? with
    |none=>true
    |some o=>uk o.op&&(List.range ops.size).all λj=>(decide (j<n)&& !L.contains j)||decide (j=i)||Region.waitsFor md ops j i||match ops[j]? with|some a=>o.apart ops a|none=>true
def sN{n:Nat}{L:List Nat}(h:yq md ops n L=true):rE md ops n L:=by
 refine⟨λi hi o d=> ?_,λi hi o d j t b f g l=> ?_⟩
 ·have c:=HV.1 h i hi;simp only[d,HS]at c;cases m:o.op with
  |extract x k=>exact⟨x,k,rfl⟩
  |_=>rw[m]at c;cases c.1
 ·have c:=HV.1 h i hi;simp only[d,HS]at c;have a:=HV.1 c.2 j (H7.2 (Ih.1 b).1);simp only[b,I1,HS,HI,JR]at a;rcases a with((a|a)|a)|a
  ·rcases f with r|r
   ·omega
   ·have s:L.contains j=true:=by simpa using r
    rw[a.2]at s;cases s
  ·exact absurd a g
  ·obtain⟨u,p,e,he,v,q⟩:=Region.waitsFor_spec a;have:u=t:=Option.some.inj (p.symm.trans b);subst this;exact absurd q (l e he v)
  ·exact a
def rF(md:Region.Mode)(ops:Array Oper)(L:List Nat)(n:Nat):Bool:=
 (List.range n).all λi=>L.contains i||(List.range (n+1)).any λj=>decide (i<j)&& !L.contains j&&Region.waitsFor md ops j i
def jc{L:List Nat}{n:Nat}{listed:Array Bool}(C:rF md ops L n=true)(D:Region.chainB md ops n=true)(H:n<ops.size)(inv:HeadInv md ops n listed):
    ∀(d i:Nat),n-i=d->i<n->i∉L->listed.getD i true=false->∀t,n<=t->t∉Region.ready md ops listed:=by
 intro d;induction d using Nat.strongRecOn with
 |_ d E=>
  intro i hd hi p k t ht w;obtain⟨_,x,g,c⟩:=IB.1 w;have l:t<ops.size:=(Ih.1 g).1;by_cases q:t=n
  ·subst q;have a:=HV.1 C i (H7.2 hi);rw[I1]at a
   rcases a with a|a
   ·exact absurd (by simpa using a) p
   ·obtain⟨j,F,h⟩:=JO.1 a;simp only[HS,HI,JR]at h
    have r:j∉L:=λhm=>by have y:L.contains j=true:=by simpa using hm
                        rw[h.1.2]at y;cases y
    obtain⟨z,m,e,he,o,b⟩:=Region.waitsFor_spec h.2;have A:j<=t:=by have:=H7.1 F;omega
    by_cases s:j=t
    ·subst s;have:z=x:=Option.some.inj (m.symm.trans g);subst this;have f:=c e he o;rw[b,getD_both k]at f
     cases f
    ·cases B:listed.getD j false with
     |true=>
      have f:=inv.closed j z m B e he o;rw[b,getD_both k]at f
      cases f
     |false=>
      have u:j<listed.size:=by rw[inv.size];omega
      exact E (t-j) (by omega) j rfl (by omega) r (getD_in u B) t (Hm _) w
  ·have a:=HV.1 D t (H7.2 l);simp only[I1,HI]at a;rcases a with a|a
   ·omega
   ·obtain⟨G,v,e,he,o,b⟩:=Region.waitsFor_spec a;have:G=x:=Option.some.inj (v.symm.trans g);subst this;have f:=c e he o;rw[b,getD_both (inv.tail (t-1) (by omega) (by omega))]at f
    cases f
def rG{w0:World}{n g:Nat}{L:List Nat}{C:Act->Prop}(A:Region.noSelect ops=true)(hs:rF md ops L n=true)(hQ:∀c a d u w,Q (.panic c) (Act.put a d u) w->Q (.panic c) a w)(hL:rE md ops n L)(Y:Region.chainB md ops n=true)(Z:n<ops.size)(hd:mM md ops=true)(hp:kt md ops n=true)
    (hC:∀listed a w,listed.size=ops.size->(∀i,i<n->listed.getD i false=true)->(∀t,n<=t->t<ops.size->listed.getD t true=false)->C a->Kp ae w0 w->wpAny P md ops Q g listed a w):
    ∀(m:Nat) (R:List Nat) (listed:Array Bool) (a:Act) (w:World),R.length=m->R.Pairwise (·< ·)->(∀i∈R,i<n)->(∀i,i<n->(listed.getD i true=false↔i∈R))->HeadInv md ops n listed->Kp ae w0 w->
     cC P ops w0 C R a->wpAny P md ops Q (m+g) listed a w:=by
 intro m;induction m with
 |zero=>
  intro R listed a w M _ _ x inv X h;have:R=[]:=IA M;subst this;rw[HR];exact hC listed a w inv.size (λi hi=>c_ (by rw[inv.size];omega) (λF=>by have:=(x i hi).1 F;cases this)) inv.tail h X
 |succ m ih=>
  intro R listed a w M l s x inv X h;obtain⟨b,R',rfl⟩:∃b R',R=b::R':=by cases R with|nil=>simp at M|cons r R'=>exact⟨_,_,rfl⟩
  have O:b<n:=s b HX;have S:listed.getD b true=false:=(x b O).2 HX;rw[show m+1+g=(m+g)+1 by omega];have z:b∈Region.ready md ops listed:=by
   obtain⟨o,ho⟩:∃o,ops[b]? =some o:=⟨_,KC (by omega)⟩
   refine IB.2 ⟨S,o,ho,λe he hb=> ?_⟩;have aj:=gN hd b o ho e he hb;refine c_ (by rw[inv.size];omega) (λq=> ?_);have hm:=(x e.on (by omega)).1 q;rcases Ho.1 hm with N|N
   ·omega
   ·have:=(HJ.1 l).1 _ N;omega
  by_cases f:∀r∈b::R',r∈L
  ·obtain⟨o,v,F,q,N⟩:=h;have B:=f b HX;have hsz:b<listed.size:=by rw[inv.size];omega
   refine jX F (Jx A) hQ _ listed a w (λj oj ac k T ad=>hL.2 b B o F j oj ac (by rcases HW j n with h3|h3;exact .inr (f j ((x j h3).1 T));exact .inl h3) k ad) z (p6 (hL.1 b B o F) q)
    (ih R' _ _ w (by simpa using M) (HJ.1 l).2 (λj G=>s j (Iz _ G)) (λj G=> ?_) (inv.set z O) X N)
   by_cases k:b=j
   ·subst k;have q:(listed.setIfInBounds b true).getD b true=true:=by simp[hsz]
    rw[q];exact⟨λh=>(by cases h),λh=>by have:=(HJ.1 l).1 _ h;omega⟩
   ·rw[I_ true k,x j G];exact⟨λh=>by rcases Ho.1 h with h|h;exact absurd h.symm k;exact h,λh=>Iz _ h⟩
  obtain⟨r1,U,V⟩:∃r1,r1∈b::R'/\r1∉L:=Classical.byContradiction (λY=>f (λr hr=>Classical.byContradiction (λZ=>Y ⟨r,hr,Z⟩)));have D:r1<n:=s r1 U;have W:listed.getD r1 true=false:=(x r1 D).2 U;refine⟨λF=> ?_,λi hi=> ?_⟩
  ·rw[F]at z;cases z
  ·have H:i<n:=by
    rcases HW i n with q|q
    ·exact q
    ·exact absurd hi (jc hs Y Z inv _ r1 rfl D V W i q)
   obtain⟨af,oi,I,f⟩:=IB.1 hi;have hm:=(x i H).1 af;obtain⟨pre,post,ag⟩:=KD hm;rw[ag]at h l x s M
   have E:∀p∈pre,p<i:=λp hp=>(IN.1 l).2.2 p hp i HX;have J:∀p∈post,i<p:=λp hp=>(HJ.1 (IN.1 l).2.1).1 p hp
   obtain⟨v,e1,e2⟩:=cC.out I (Jx A) post pre a (λp K op ah=>jb hp p i op oi (E p K) H ah I (λe he hb heq=>by
    have q:=f e he hb;have N:=(x p (s p (IF _ K))).2 (IF _ K)
    rw[heq,getD_both N]at q;cases q)) h
   have y:(pre++post).Sublist (pre++i::post):=List.Sublist.append_left (KE _ _) _;refine e1.wpOp I X (λw' ai=>ih (pre++post) _ _ w' (by simp at M ⊢;omega) (l.sublist y) (λj G=>s j (y.subset G)) (λj G=> ?_) (inv.set hi H) ai e2);by_cases k:i=j
   ·subst k;have q:(listed.setIfInBounds i true).getD i true=true:=by
     have:i<listed.size:=by rw[inv.size];omega
     simp[this]
    rw[q];refine⟨λh=>(by cases h),λh=> ?_⟩;rcases Hu.1 h with h|h
    ·have:=E _ h;omega
    ·have:=J _ h;omega
   ·rw[I_ true k,x j G];constructor
    ·intro h;rcases Hu.1 h with h|h
     ·exact IF _ h
     ·rcases Ho.1 h with h|h
      ·omega
      ·exact KF _ h
    ·intro h;exact y.subset h
def p7{w0:World}{n g s:Nat}{os:Oper}{z:List Value}{t:TypeId}{L:List Nat}{T:Act->World->Prop}(I:Region.noSelect ops=true)(hs:rF md ops L n=true)(hQ:∀c a d u w,Q (.panic c) (Act.put a d u) w->Q (.panic c) a w)(hL:rE md ops n L)(ac:s∉L)(V:Region.chainB md ops n=true)(hn:n<ops.size)(hd:mM md ops=true)(hp:kt md ops n=true)
    (K:s<n) (D:ops[s]? =some os) (ad:∀l,Region.wanted os l=true) (af:∀(a:Act) W,(execOp a.eval os).run P W=.ok (.value (.pointer (some ⟨W.heap.size,0,none⟩))) (W.alloc (.cells z.toArray t)))
    (an:∀i o,i<n->i≠s->ops[i]? =some o->o.apart ops os=true)
    (hC:∀listed a w,listed.size=ops.size->(∀i,i<n->listed.getD i false=true)->(∀t,n<=t->t<ops.size->listed.getD t true=false)->T a w->wpAny P md ops Q g listed a w):
    ∀(m:Nat) (R:List Nat) (listed:Array Bool) (a:Act) (w:World),R.length=m->R.Pairwise (·< ·)->(∀i∈R,i<n/\i≠s)->(∀i,i<n->(listed.getD i true=false↔(i∈R\/i=s)))->HeadInv md ops n listed->Kp ae w0 w->
     cC P ops w0 (λa'=>∀b W,w0.heap.size<=b->ag W b z t->Kp ae w0 W->T (a'.put os.dst (.pointer (some ⟨b,0,none⟩))) W) R a->wpAny P md ops Q (m+1+g) listed a w:=by
 intro m;induction m with
 |zero=>
  intro R listed a w hl y q E inv hk h;have ao:R=[]:=IA hl;subst ao;rw[show 0+1+g=g+1 by omega];have A:listed.getD s true=false:=(E s K).2 (.inr rfl);refine⟨λh0=> ?_,λi hi=> ?_⟩
  ·have:s∈Region.ready md ops listed:=by
    refine IB.2 ⟨A,os,D,λe he M=> ?_⟩;have ah:=gN hd s os D e he M;refine c_ (by rw[inv.size];omega) (λk=> ?_);rcases(E e.on (by omega)).1 k with f|f
    ·cases f
    ·omega
   rw[h0]at this;cases this
  ·have F:i<n:=by
    rcases HW i n with k|k
    ·exact k
    ·exact absurd hi (jc hs V hn inv _ s rfl K ac A i k)
   obtain⟨X,oi,N,S⟩:=IB.1 hi;have oa:i=s:=by
    rcases(E i F).1 X with f|f
    ·cases f
    ·exact f
   subst oa;unfold Go.wpOp;simp only[D];rw[Hl (ad _)];refine .inl ?_;unfold Oper.wp;rw[af];have hsz:i<listed.size:=by rw[inv.size];omega
   refine hC _ _ _ (by simp[inv.size]) (λj O=> ?_) (λt' ht aq=> ?_) (h w.heap.size _ hk.size (ag.new w z t) (hk.alloc _))
   ·by_cases B:i=j
    ·subst B;simp[hsz]
    ·refine c_ (by simp[inv.size];omega) (λk=> ?_);rw[I_ true B]at k
     rcases(E j O).1 k with f|f
     ·cases f
     ·omega
   ·rw[I_ true (by omega)];exact inv.tail t' ht aq
 |succ m ih=>
  intro R listed a w hl y q E inv hk h;obtain⟨H,R',rfl⟩:∃H R',R=H::R':=by cases R with|nil=>simp at hl|cons r R'=>exact⟨_,_,rfl⟩
  have ai:=q H HX;have aj:listed.getD H true=false:=(E H ai.1).2 (.inl HX);have A:listed.getD s true=false:=(E s K).2 (.inr rfl);rw[show m+1+1+g=(m+1+g)+1 by omega];refine⟨λh0=> ?_,λi hi=> ?_⟩
  ·by_cases ay:s<H
   ·have:s∈Region.ready md ops listed:=by
     refine IB.2 ⟨A,os,D,λe he M=> ?_⟩;have ah:=gN hd s os D e he M;refine c_ (by rw[inv.size];omega) (λk=> ?_);rcases(E e.on (by omega)).1 k with f|f
     ·rcases Ho.1 f with f|f
      ·omega
      ·have:=(HJ.1 y).1 _ f;omega
     ·omega
    rw[h0]at this;cases this
   ·have:H∈Region.ready md ops listed:=by
     obtain⟨o,ho⟩:∃o,ops[H]? =some o:=⟨_,KC (by omega)⟩
     refine IB.2 ⟨aj,o,ho,λe he M=> ?_⟩;have ah:=gN hd H o ho e he M;refine c_ (by rw[inv.size];omega) (λk=> ?_);rcases(E e.on (by omega)).1 k with f|f
     ·rcases Ho.1 f with f|f
      ·omega
      ·have:=(HJ.1 y).1 _ f;omega
     ·have:=ai.2;omega
    rw[h0]at this;cases this
  ·have F:i<n:=by
    rcases HW i n with k|k
    ·exact k
    ·exact absurd hi (jc hs V hn inv _ s rfl K ac A i k)
   obtain⟨X,oi,N,S⟩:=IB.1 hi;by_cases oa:i=s
   ·subst oa;unfold Go.wpOp;simp only[D];rw[Hl (ad _)];refine .inl ?_;unfold Oper.wp;rw[af];have M:=ag.new w z t;have ak:Kp ae w0 (w.alloc (.cells z.toArray t)):=hk.alloc _;have k:=cC.put (C:=λa'=>∀W,ag W w.heap.size z t->Kp ae w0 W->T a' W) D (Jx I) (.pointer (some ⟨w.heap.size,0,none⟩)) (H::R') a
     (λp G op Y=>an p op (q p G).1 (q p G).2 Y) (cC.later (Kp.refl ae w0) (λa' V W f h3=>V w.heap.size W hk.size f h3) _ _ h)
    have f:=cC.later (w1:=w.alloc (.cells z.toArray t)) (C':=λa'=>∀W,Kp ae (w.alloc (.cells z.toArray t)) W->T a' W) ak (λa' V W al=>V W (M.kp al (λx=>x)) (ak.trans al)) _ _ k;have hsz:i<listed.size:=by rw[inv.size];omega
    have:=rG (g:=g) (L:=L) I hs hQ hL V hn hd hp (λlisted a w ar k f au av=>hC listed a w ar k f (au w av)) (m+1) (H::R') (listed.setIfInBounds i true) _ _ hl y (λj O=>(q j O).1) (λj O=> ?_) (inv.set hi F) (Kp.refl ae _) f
    ·exact this
    ·by_cases B:i=j
     ·subst B;have h3:(listed.setIfInBounds i true).getD i true=true:=by simp[hsz]
      rw[h3];exact⟨λh=>(by cases h),λh=>absurd rfl (q _ h).2⟩
     ·rw[I_ true B,E j O];exact⟨λh=>by rcases h with h|h;exact h;omega,λh=>.inl h⟩
   ·have hm:i∈H::R':=by
     rcases(E i F).1 X with f|f
     ·exact f
     ·exact absurd f oa
    obtain⟨pre,post,aw⟩:=KD hm;rw[aw]at h y E q hl
    have U:∀p∈pre,p<i:=λp hp=>(IN.1 y).2.2 p hp i HX;have Z:∀p∈post,i<p:=λp hp=>(HJ.1 (IN.1 y).2.1).1 p hp
    obtain⟨v,e1,e2⟩:=cC.out N (Jx I) post pre a (λp G op Y=>jb hp p i op oi (U p G) F Y N (λe he M heq=>by
     have k:=S e he M;have f:=(E p (q p (IF _ G)).1).2 (.inl (IF _ G))
     rw[heq,getD_both f]at k;cases k)) h
    have J:(pre++post).Sublist (pre++i::post):=List.Sublist.append_left (KE _ _) _;refine e1.wpOp N hk (λw' ax=>ih (pre++post) _ _ w' (by simp at hl ⊢;omega) (y.sublist J) (λj O=>q j (J.subset O)) (λj O=> ?_) (inv.set hi F) ax e2);by_cases B:i=j
    ·subst B;have k:(listed.setIfInBounds i true).getD i true=true:=by
      have:i<listed.size:=by rw[inv.size];omega
      simp[this]
     rw[k];refine⟨λh=>(by cases h),λh=> ?_⟩;rcases h with h|h
     ·rcases Hu.1 h with h|h
      ·have:=U _ h;omega
      ·have:=Z _ h;omega
     ·exact absurd h oa
    ·rw[I_ true B,E j O];constructor
     ·rintro(h|h)
      ·rcases Hu.1 h with h|h
       ·exact .inl (IF _ h)
       ·rcases Ho.1 h with h|h
        ·omega
        ·exact .inl (KF _ h)
      ·exact .inr h
     ·rintro(h|h)
      ·exact .inl (J.subset h)
      ·exact .inr h
def sO(md:Region.Mode)(ops:Array Oper)(L K:List Nat)(s n:Nat):Bool:=
 Region.noSelect ops&&decide (n<ops.size)&&rF md ops L n&&Region.chainB md ops n&&mM md ops&&kt md ops n&&jZ K&&K.all (λk=>decide (k<n)&&decide (k≠s))&&
 ((List.range n).all λi=>K.contains i||decide (i=s))&&decide (s<n)&&Region.seqB md ops (ops.size-n) n (gI ops n)&&decide (K.length+1=n)&&
 ((List.range n).all λi=>decide (i=s)||match ops[i]?,ops[s]? with|some o,some os=>o.apart ops os|_,_=>true)&&yq md ops n L&& !L.contains s
def c5{id:Nat}{a:Act}{w:World}{l:List Oper}(L K:List Nat)(s n:Nat)(z:List Value)(t:TypeId){os:Oper}(hm:P.follows .mixedOrders=true)(Y:(sO .any l.toArray L K s n&&K.all (λk=>decide (k<l.length)))=true)
    (hQ:∀c a d u w,Q (.panic c) (Act.put a d u) w->Q (.panic c) a w) (C:l[s]? =some os) (D:os.guard=none) (E:∀(a:Act) W,(execOp a.eval os).run P W=.ok (.value (.pointer (some ⟨W.heap.size,0,none⟩))) (W.alloc (.cells z.toArray t)))
    (h:dJ P l.toArray w (λa'=>∀b W,w.heap.size<=b->ag W b z t->Kp ae w W->wpList P l.toArray Q (l.drop n) (a'.put os.dst (.pointer (some ⟨b,0,none⟩))) W) (pick l K) a):(Code.region id l.toArray true).wp P Q a w:=by
 simp only[sO,HS,HI]at Y;obtain⟨⟨⟨⟨⟨⟨⟨⟨⟨⟨⟨⟨⟨⟨⟨b1,b2⟩,b3⟩,b4⟩,b5⟩,b6⟩,b7⟩,b8⟩,b9⟩,F⟩,G⟩,ac⟩,H⟩,I⟩,v⟩,bK⟩:=Y;have hsz:l.toArray.size=l.length:=by simp
 have m:l.toArray[s]? =some os:=by rw[KG];exact C
 refine wp_region_any hm ?_;have x:HeadInv .any l.toArray n (Array.replicate l.toArray.size false):=by
  refine⟨by simp,λj oj hj hl e he hb=> ?_,λt ht J=> ?_⟩
  ·have M:j<l.length:=by have:=(Ih.1 hj).1;simpa using this
   simp[M]at hl
  ·have N:t<l.length:=by simpa using J
   simp[N]
 have p:=p7 (P:=P) (Q:=Q) (md:=.any) (ops:=l.toArray) (w0:=w) (z:=z) (t:=t) (L:=L) (g:=l.toArray.size-n) (T:=λa' W=>wpList P l.toArray Q (l.drop n) a' W) b1 b3 hQ (sN I) (λO=>by(have h5:L.contains s=true:=by simpa using O);rw[h5]at v;cases v) b4 b2 b5 b6 F m
    (λl'=>by unfold Region.wanted;rw[D]) E
    (λi o hi R S=>by
     have f:=HV.1 H i (H7.2 hi);rw[I1]at f
     rcases f with f|f
     ·exact absurd (Ji f) R
     ·simpa[S,m]using f)
    (λlisted U w' Z f h2 V=>by
     have y:listed=gI l.toArray n:=by
      apply JL
      ·simp[gI,Z]
      ·intro i q A;have X:i<l.toArray.size:=by rw[<-Z];exact q
       simp only[gI,Kc,Kd,Ip,List.getElem_range];by_cases r:i<n
       ·have:=f i r;simp[q]at this;rw[this,Hz r]
       ·have:=h2 i (by omega) X;simp[q]at this;rw[this,HN r]
     subst y;have B:(l.drop n).length=l.toArray.size-n:=by simp
     have:=wpAny_of_seq (P:=P) (md:=.any) (ops:=l.toArray) (Q':=Q) (l.drop n) n (gI l.toArray n) U w' (λj=>by simp[Ke]) (by rw[B];exact G) V
     rwa [B]at this) K.length K (Array.replicate l.toArray.size false) a w.drew rfl (il K b7) (λi hi=>by
      have:=HV.1 b8 i hi
      simpa using this) (λi hi=>by
      have f:=HV.1 b9 i (H7.2 hi);have A:i<l.length:=by omega
      simp[A]at f ⊢
      exact f) x (Kp.refl ae w).drew (im K a bK h)
 rw[show K.length+1+(l.toArray.size-n)=l.toArray.size by omega]at p
 exact p
end
section
open Go.RowKit
def Nw(w:World)(F a:Nat->Prop):Prop:=∀b,a b->F b\/w.heap.size<=b
def Nw.refl(w:World)(F:Nat->Prop):Nw w F F:=λ_ h=>.inl h
def Nw.trans{w w':World}{F c a:Nat->Prop}(h:Nw w F c)(e:Nw w' c a)(g:w.heap.size<=w'.heap.size):Nw w F a:=λb f=>by
 rcases e b f with d|d
 ·exact h b d
 ·exact .inr (by omega)
def Kp.steps{w w1 a:World}{F c:Nat->Prop}(k:Kp F w w1)(d:Nw w F c)(k':Kp c w1 a):Kp F w a:=
 k.then k' (λb e hf=>by
  rcases d b hf with h|h
  ·exact h
  ·omega)
def nG{w w1:World}{base:Nat}{e:TypeId}{size n:Nat}{v:Value}{row:Option Nat}{xs:List Value}(h:w.ownsRow base e size v n xs)(d:w.grownBy w1 row)(a:∀b,v.ownBlock=some b->row≠some b):w1.ownsRow base e size v n xs:=by
 refine⟨h.1,?_⟩;rcases h.2 with⟨rfl,rfl⟩|⟨g,cap,cur,rfl,f,c,r⟩
 ·exact .inl ⟨rfl,rfl⟩
 ·exact .inr ⟨g,cap,cur,rfl,f,(d.block g (Ih.1 c).1 (λe=>a g rfl e.symm)).trans c,r⟩
def um{α:Type}(en:α->List Value)(sz:Nat)(b:∀a,(en a).length=sz)(hp:0<sz)(a:α)(n:Nat):madeCells (en a).toArray (n*sz)=((List.replicate n a).flatMap en).toArray:=by
 apply JL
 ·rw[size_madeCells,HY,cA en sz b,Ic]
 ·intro i d j;rw[size_madeCells]at d
  have e:i%sz<sz:=Iw _ hp;have hd:i/sz<n:=(Ka hp).2 d;have c:i/sz*sz+i%sz=i:=by rw[IY];exact I8 i sz
  have f:=flat_get en sz b (List.replicate n a) (i/sz) (i%sz) e;rw[c,I2,Hl hd]at f
  have hi:i%sz<(en a).length:=by rw[b];exact e
  simp only[madeCells,Array.getElem_map,Array.getElem_range,HY,b];have g:((List.replicate n a).flatMap en)[i]? =some ((en a)[i%sz]'hi):=by rw[f];simp[hi]
  have h:((List.replicate n a).flatMap en).toArray[i]=(en a)[i%sz]'hi:=by
   have:=(HD.1 g).2;simpa using this
  rw[h];simp[hi]
def ew{P:Program}{t e:TypeId}{z:Value}{sz bytes:Nat}(T:gL P t e z sz bytes){α:Type}(en:α->List Value)(g:∀a,(en a).length=sz)(a:α)(ha:z.cells=(en a).toArray)(n:Nat)(k:bytes*n<=281474976710656)(l:n<=9223372036854775807)(w:World):
    (Instr.makeSlice t (.int .i64 (n:Int)) (.int .i64 (n:Int))).run P w=.ok (.slice (some ⟨w.heap.size,0,none⟩) n n) (w.alloc (.cells ((List.replicate n a).flatMap en).toArray e)):=by
 obtain⟨i,hi,b⟩:=Ja.1 T.info;simp only[Prod.mk.injEq]at b;obtain⟨hz,j,c⟩:=b;have d:(bytes:Int)*(n:Int)<=281474976710656:=by
  have h:((bytes*n:Nat):Int)<=281474976710656:=by omega
  rwa [Int.natCast_mul]at h
 have f:=run_make (P:=P) w t e i z T.ht hi hz .i64 .i64 n n (by omega) (JS _) (by rw[c];exact d) (by omega);rw[j,ha]at f
 simp only[HZ]at f;rw[f,um en sz g T.pos a n]
end
section
open Go Go.RowKit
def lg{P:Program}(w:World)(t ty e:TypeId)(i:TypeInfo)(ht:P.underlying t=some (.slice e))(hi:P.info? e=some i)(base:Option Addr)(n cap c:Nat)(b:n<=cap):(Builtin.append_ #[t,t] ty #[.slice base n cap,.slice none 0 c]).run P w=.ok (.slice base n cap) w:=by
 cases base with
 |none=>simp[Builtin.append_,Jz ht,sizeOf,typeInfo,hi,Builtin.lenOf,Builtin.firstCells,b]
 |some a=>simp[Builtin.append_,Jz ht,sizeOf,typeInfo,hi,Builtin.lenOf,Builtin.firstCells,b,storeCells]
def qk{P:Program}{t e:TypeId}{z:Value}{size bytes:Nat}(T:gL P t e z size bytes){ops:Array Oper}{rest:List Oper}{o:Oper}{a:Act}{Q:Exit->Act->World->Prop}{w:World}(s x:Operand)
    (p:o.guard=none) (G:o.op=.call {callee:=.builtin .append,args:=#[s,x],argTypes:=#[t,t]}) (base:Nat) {v:Value} {n:Nat} {xs:List Value} (d:w.ownsRow base e size v n xs)
    {v2:Value} {m:Nat} {news:List Value} (H:a.eval s=v) (I:a.eval x=v2) (k:Sl w v2 m size news) (B:news.all (·.oneCell')=true)
    (f:(n+m)*bytes<=140737488355328) (N:n+m<=9223372036854775807) (l:base<=w.heap.size)
    (h:∀C w',w'.ownsRow base e size C (n+m) (xs++news)->w.grownBy w' v.ownBlock->wpList P ops Q rest (a.put o.dst C) w'):wpList P ops Q (o::rest) a w:=by
 obtain⟨i,hi,D,E,F⟩:=Ju T.info;obtain⟨O,c,rfl,J⟩:=k.is;cases O with
 |some ad=>
  refine Kx w p s x t G base e i z size bytes T.ht hi D E F T.hz T.pos v n xs H d ad m c news I k.len ?_ (by simpa using B) (by unfold maxLen;omega) f l (λC w' a1 a2 _=>h C w' a1 a2);intro j u hu;obtain⟨b,off,q,y⟩:=J j u hu;injection q with q;subst q;have e:(⟨b,off,none⟩:Addr).add j=⟨b,off+j,none⟩:=by unfold Addr.add;split<;>simp_all
  rw[e];exact y
 |none=>
  have L:news=[]:=by
   cases news with
   |nil=>rfl
   |cons u r=>obtain⟨_,_,q,_⟩:=J 0 u rfl;cases q
  subst L;have hm:m=0:=by
   have B:=k.len;rw[Jj]at B
   rcases Nat.mul_eq_zero.1 B.symm with y|y
   ·exact y
   ·have:=T.pos;omega
  subst hm;obtain⟨bo,cap,rfl⟩:=aN d;have A:n<=cap:=by
   rcases d.2 with⟨V,L⟩|⟨g,M,cur,R,_,_,y,_⟩
   ·omega
   ·injection R with _ _ W;omega
  have S:=lg (P:=P) w t o.type e i T.ht hi bo n cap c A;refine Kf p λK U=> ?_;unfold Oper.wp execOp;simp only[G,resolve,invoke,builtin,IG,IP,IC,Kc,HA,Ik,H,I,S];exact U _ _ (h _ _ (by simpa using d) ⟨rfl,rfl,rfl,Hm _,λ_ _ _=>rfl⟩)
end
section
open Go.ChangeShapes Go.WideShapes Go.ChangeAt Go.RowKit
structure kW where
 kind:Int
 cE:Nat
 id:Nat
 len:Nat
 fC:Nat
def p8(o:kW):List Value:=[.int .i64 o.kind,.int .u32 o.cE,.int .u32 o.id,.int .u64 o.len,.int .u64 o.fC]
structure kW.ok (o:kW):Prop where
 kind: -9223372036854775808<=o.kind/\o.kind<=9223372036854775807
 cE:o.cE<4294967296
 id:o.id<4294967296
 len:o.len<18446744073709551616
 fC:o.fC<18446744073709551616
instance:Inhabited kW:=⟨⟨0,0,0,0,0⟩⟩
def kW.wT(o p:kW):(o.kind=p.kind/\o.cE=p.cE/\o.id=p.id/\o.len=p.len/\o.fC=p.fC)↔o=p:=by
 obtain⟨a,b,c,d,e⟩:=o;obtain⟨a',f,g,d',h⟩:=p;simp only[kW.mk.injEq]
instance:DecidableEq kW:=λo p=>decidable_of_iff _ (kW.wT o p)
section
variable {H:Type} {enc:TypeId×Value->H} {w:World} {base:Nat} {spare:Nat->Bool} {held:Bool}
end
end
end Go.Proofs.YtincjochpkdnfaaGreatDoor
