/- slices.Sort of unsigned numbers of 16 bits: the library's pdqsort, function by function, computes the kit's plain one; a row of the caller's own is sorted by it, whatever its length. -/
import Derived.Test.YtincjochpkdnfaaGreatDoorV1
import Derived.Sort.AssemblyPlain
import Derived.Sort.Walk13a
import Derived.Test.YtincjochpkdnfaaGreatDoorShelf
import Derived.Sort.WalkB2
import Derived.Sort.WalkC4
import Derived.Sort.Walk7
import Derived.Deep.Cut
set_option linter.all false
set_option maxHeartbeats 16000000
set_option maxRecDepth 1000000
namespace Go.Proofs.YtincjochpkdnfaaGreatDoor
namespace sortUint16
open Go.RowKit Go.Sort
abbrev en(x:Nat):Value:=.int .u16 x
def ak(x y:Nat):Bool:=decide (x<y)
def gU:SWO ak:=⟨λx=>by simp[ak],λx y z=>by simp only[ak,HI];omega,λx y z=>by simp only[ak,Io];omega⟩
def isNaN(x:Nat)(w:World):Calls Tryz.prog 164 #[en x] w λe w'=>e=.returned (.bool false)/\w'=w:=by
 go_enter Tryz.func164,Tryz.ntmps164;go_wp2;go_ret;exact⟨by simp,rfl⟩
def less(x y:Nat)(w:World):Calls Tryz.prog 152 #[en x,en y] w λe w'=>e=.returned (.bool (ak x y))/\w'=w:=by
 go_enter Tryz.func152,Tryz.ntmps152;go_wp2_with(go_at_call 164;refine(isNaN _ _).mono ?_;rintro e w' ⟨rfl,rfl⟩);go_ret;exact⟨rfl,rfl⟩
def aI:Value->Int| .int _ q=>q|_=>0
def uU(blk off cap a b:Nat)(d:Array Nat)(w:World)(k:Holds en w blk off d)(I:a<=b)(Q:b<=d.size)(hsz:d.size<4611686018427387904):
    Calls Tryz.prog 146 #[.slice (some ⟨blk,off,none⟩) d.size cap,.int .i64 a,.int .i64 b] w λe w'=>e=.returned (.tuple #[])/\∃n,w'=putRow en (Sort.ahead w n) blk off (Sort.insertionSort ak d a b):=by
 go_enter Tryz.func146,Tryz.ntmps146;go_wp2;go_loopw [6] (λo wr=>∃(i n:Nat) (D:Array Nat),o=.int .i64 i/\a<i/\i<=b+1/\D.size=d.size/\wr=putRow en (Sort.ahead w n) blk off D/\Hid (insOuter ak a b i D=insOuter ak a b (a+1) d)) (λo _=>b+1-(aI o).toNat)
 case atStart=>exact⟨a+1,0,d,by go_num,by omega,by omega,rfl,(putRow_self _ _ _ _ _ k).symm,rfl⟩
 case round=>
  obtain⟨i,n,D,rfl,J,K,p,r,C⟩:=hrel;go_wp2
  ·have s:i<b:=by assumption
   go_loopw [7] (λu v=>∃(j m:Nat) (E:Array Nat),u=.int .i64 j/\a<=j/\j<=i/\E.size=d.size/\v=putRow en (Sort.ahead w m) blk off E/\Hid (insInner ak a j E=insInner ak a i D)) (λu _=>(aI u).toNat)
   case atStart=>exact⟨i,n,D,rfl,by omega,Hm _,p,rfl,rfl⟩
   case round=>
    obtain⟨j,m,E,rfl,L,M,f,c,F⟩:=hrel;obtain⟨G,x⟩:∃G:Nat->Nat,∀t,G t=E[t]! :=⟨λt=>E[t]!,λ_=>rfl⟩
    have N:∀t,t<d.size->wr.cell? ⟨blk,off+t,none⟩=some (en (G t)):=λt ht=>by
     rw[c,x];exact cell?_putRow _ _ _ _ d E (holds_ahead _ _ _ _ _ _ k) f t (by omega)
    have O:∀t,t<d.size->wr.frozen? ⟨blk,off+t,none⟩=false:=λt ht=>by
     rw[c,frozen?_putRow];exact((holds_ahead _ _ m _ _ _ k) t ht).2
    have H:=aa c;have g:=aa x;clear c x k r;have out:(j<=a\/ak E[j]! E[j-1]! =false)->∀q,∃l n' y,Value.int .i64 ((i:Int)+1)=.int .i64 (l:Nat)/\a<l/\l<=b+1/\y.size=d.size/\
     wr.drewN q=putRow en (Sort.ahead w n') blk off y/\Hid (insOuter ak a b l y=insOuter ak a b (a+1) d):=λP q=>
     ⟨i+1,m+q,E,by go_num,by omega,by omega,f,by rw[H.out];exact putRow_drewN _ _ _ _ _ _ _,
      by show _=_;rw[<-C.out,insOuter_go _ _ _ _ _ s,<-F.out,insInner_stop _ _ _ _ P]⟩
    have h:=aa out;clear out;go_wp2;by_cases z:a<j
    ·go_quiet (first|(go_at_call 152;refine Calls.quiet_of_same (less _ _ _)))
     go_wp2
     ·have A:ak (G j) (G (j-1))=true:=by assumption
      go_region;all_goals go_wp2
      go_roundw
      case rel=>
       refine⟨j-1,m+(nq+1),Sort.swp E j (j-1),by congr 1;omega,by omega,by omega,by rw[size_swp];exact f,?_,?_⟩
       ·rw[H.out,g.out,g.out];exact swap_worldA _ w m (nq+1) blk off E j (j-1) (by omega) (by omega)
       ·show _=_;rw[<-F.out,insInner_go ak a j E z (by rw[<-g.out,<-g.out];exact A)]
      case measure=>simp[aI];omega
     ·have A:ak (G j) (G (j-1))=false:=by assumption
      go_roundw
      case rel=>exact h.out (Or.inr (by rw[<-g.out,<-g.out];exact A)) nq
      case measure=>simp[aI];omega
    ·go_quiet (first|(go_at_call 152;refine Calls.quiet_of_same (less _ _ _)))
     go_wp2;go_roundw
     case rel=>exact h.out (Or.inl (by omega)) nq
     case measure=>simp[aI];omega
  ·have B:¬i<b:=by assumption
   go_end0;exact⟨rfl,n,by unfold Sort.insertionSort;rw[<-C.out,insOuter_stop _ _ _ _ _ B]⟩
def fS(w:World)(blk off:Nat)(d:Array Nat):(putRow en w blk off d).heap[blk]? =(w.heap[blk]?).map (onCells (putCells en off d)):=by
 simp[putRow,mapBlock,Kv]
def hs{w w':World}{blk off:Nat}{d:Array Nat}(h:Holds en w blk off d)(e:w'.heap[blk]? =w.heap[blk]?):Holds en w' blk off d:=by
 intro j c;obtain⟨a,b⟩:=h j c;exact⟨by simp only[World.cell?]at a ⊢;rw[e];exact a,by simp only[World.frozen?]at b ⊢;rw[e];exact b⟩
structure Rw (w:World) (blk off:Nat) (d:Array Nat) (W:World):Prop where
 lt:blk<w.heap.size
 row:W.heap[blk]? =(putRow en w blk off d).heap[blk]?
 kp:Kp (λb=>b=blk) w W
def Rw.refl{w:World}{blk off:Nat}{d:Array Nat}(h:Holds en w blk off d)(a:blk<w.heap.size):Rw w blk off d w:=
 ⟨a,by rw[putRow_self _ _ _ _ _ h],Kp.refl _ _⟩
def Rw.old{w W a:World}{blk off:Nat}{d:Array Nat}(h:Rw w blk off d W)(k:Kp ae W a):Rw w blk off d a:=
 ⟨h.lt,(k.block blk (HP h.lt h.kp.size) id).trans h.row,h.kp.then k (λ_ _ x=>x.elim)⟩
def Rw.holds{w W:World}{blk off:Nat}{d d0:Array Nat}(h:Rw w blk off d W)(a:Holds en w blk off d0)(b:d.size=d0.size):Holds en W blk off d:=
 hs (holds_putRow en w blk off d0 d a b) h.row
def Rw.blk{w W:World}{blk off:Nat}{d:Array Nat}(h:Rw w blk off d W):blk<W.heap.size:=HP h.lt h.kp.size
def lB(w:World)(blk off n:Nat)(d:Array Nat):Kp (λb=>b=blk) w (putRow en (Sort.ahead w n) blk off d):=by
 refine⟨rfl,rfl,rfl,by simp[putRow,mapBlock,Sort.ahead],λk c a=> ?_⟩;have:blk≠k:=λe=>a e.symm;simp[putRow,mapBlock,Sort.ahead,Kv,this]
def Rw.put{w W a:World}{blk off:Nat}{d d':Array Nat}(h:Rw w blk off d W)(b:d'.size=d.size)(e:∃n,a=putRow en (Sort.ahead W n) blk off d'):Rw w blk off d' a:=by
 obtain⟨n,rfl⟩:=e;refine⟨h.lt,?_,h.kp.then (lB W blk off n d') (λi _ x=>x)⟩;have c:(putRow en (Sort.ahead W n) blk off d').heap[blk]? =(W.heap[blk]?).map (onCells (putCells en off d')):=fS _ _ _ _;have f:(putRow en (putRow en w blk off d) blk off d').heap[blk]? =((putRow en w blk off d).heap[blk]?).map (onCells (putCells en off d')):=fS _ _ _ _;rw[c,h.row,<-f];have:=putRow_ahead_putRow en w 0 0 blk off d d' b;rw[ahead_zero,ahead_zero]at this
 rw[this]
def Rw.DT{w W:World}{blk off:Nat}{d:Array Nat}(c:blk<w.heap.size)(h:At en w blk off d W):Rw w blk off d W:=by
 obtain⟨n,os,rfl⟩:=h;have a:blk<(putRow en (Sort.ahead w n) blk off d).heap.size:=by simpa[putRow,mapBlock,Sort.ahead]using c
 refine⟨c,?_,?_⟩
 ·rw[heap_grow_old _ _ a,fS,fS];rfl
 ·refine⟨rfl,rfl,rfl,by simp[grow,putRow,mapBlock,Sort.ahead],λk e b=> ?_⟩;rw[heap_grow_old _ _ (by simpa[putRow,mapBlock,Sort.ahead]using e)];exact(lB w blk off n d).block k e b
def Rw.trans{w W a:World}{blk off:Nat}{d d':Array Nat}(h:Rw w blk off d W)(b:d'.size=d.size)(k:Rw W blk off d' a):Rw w blk off d' a:=by
 refine⟨h.lt,?_,h.kp.then k.kp (λi _ x=>x)⟩;have:=(h.put b ⟨0,rfl⟩).row;rw[ahead_zero]at this
 rw[k.row,this]
def qM{w:World}{g:Nat}{cur:Array Value}{e:TypeId}{xs:List Nat}(b:w.heap[g]? =some (.cells cur e (0,0)))(ht:cur.toList.take xs.length=xs.map en):Holds en w g 0 xs.toArray:=by
 intro j d;have a:j<xs.length:=by simpa using d
 refine⟨?_,by simp[World.frozen?,b]⟩;have c:(cur.toList.take xs.length)[j]? =(xs.map en)[j]? :=by rw[ht]
 rw[JT a]at c
 simp only[World.cell?,b,HR,Option.isSome_none,Jo,Jp];rw[<-Array.getElem?_toList,c];simp[a]
def xE{w w':World}{g:Nat}{d:Array Nat}{cur:Array Value}{e:TypeId}{fr:Nat×Nat}(h:Rw w g 0 d w')(a:w.heap[g]? =some (.cells cur e fr)):w'.heap[g]? =some (.cells (putCells en 0 d cur) e fr):=by
 rw[h.row,fS,a];rfl
def zi(cur:Array Value)(a:List Nat)(h:a.length<=cur.size):(putCells en 0 a.toArray cur).toList.take a.length=a.map en:=by
 apply IZ;intro j;by_cases b:j<a.length
 ·rw[JT b,Array.getElem?_toList];simp[putCells,b,show j<cur.size by omega]
 ·rw[List.getElem?_take_eq_none (by omega),H_ (by simp;omega)]
structure vY (xs ys:List Nat):Prop where
 perm:ys.Perm xs
 up:ys.Pairwise (·<= ·)
def uV(xs:List Nat)(lim:Nat):vY xs (pdq ak xs.toArray 0 xs.length lim true true).toList:=by
 obtain⟨b,d⟩:=pdq_sorts ak gU xs.toArray 0 xs.length lim true true (Hv _) (by simp) (.inl rfl);have e:(pdq ak xs.toArray 0 xs.length lim true true).size=xs.length:=by simpa using b.1
 refine⟨?_,?_⟩
 ·have:=b.2.2;rw[Array.extract_eq_self_of_le (by omega)]at this
  simpa using this
 ·rw[IM];intro i j hi c a;simp only[Array.length_toList]at hi c;have:=d i j (Hv _) a (by omega);rw[getElem!_pos (pdq ak xs.toArray 0 xs.length lim true true) i hi,getElem!_pos (pdq ak xs.toArray 0 xs.length lim true true) j c]at this
  simp only[ak,Io]at this;simp only[Array.getElem_toList];omega
def zj(aT:Nat):Prop:=∀(blk cap limit:Nat) (d:Array Nat) (w:World),Holds en w blk 0 d->blk<w.heap.size->d.size<=aT->limit<4611686018427387904->
    Calls Tryz.prog 127 #[.slice (some ⟨blk,0,none⟩) d.size cap,.int .i64 0,.int .i64 d.size,.int .i64 limit] w λe w'=>e=.returned (.tuple #[])/\Rw w blk 0 (pdq ak d 0 d.size limit true true) w'
def uW(n:Nat)(h:n<4611686018427387904):Lib.bitLen n<4611686018427387904:=by
 rw[bitLen_eq n (by omega)];have:=(bitsLen_le_iff n 62).2 (by omega);omega
def xF(w:World):Calls Tryz.prog 103 #[.slice none 0 0] w λe w'=>e=.returned (.tuple #[])/\w'=w:=by
 have c:=aa (Tryz.bits_Len 0 w (by omega) (by omega));have hi:Calls Tryz.prog 146 #[.slice none 0 0,.int .i64 0,.int .i64 0] w λe w'=>e=.returned (.tuple #[])/\w'=w:=by
  go_enter Tryz.func146,Tryz.ntmps146;go_wp2;go_loopw [6] (λd wr=>d=.int .i64 1/\wr=w) (λ_ _=>0)
  case atStart=>exact⟨rfl,rfl⟩
  case round=>
   obtain⟨rfl,rfl⟩:=hrel;go_wp2;go_end0;exact⟨rfl,rfl⟩
 have b:=aa hi;have hp:Calls Tryz.prog 127 #[.slice none 0 0,.int .i64 0,.int .i64 0,.int .i64 (Lib.bitLen (Int.toNat 0):Nat)] w λe w'=>e=.returned (.tuple #[])/\w'=w:=by
  clear hi;go_enter Tryz.func127,Tryz.ntmps127;go_wp2;go_loopg [1,2,3,8,9] 0 (λk s1 s2 s3 g h wr=>s1=.int .i64 0/\s2=.int .i64 0/\wr=w)
  case atStart=>exact⟨rfl,rfl,rfl⟩
  case round=>
   obtain⟨rfl,rfl,rfl⟩:=hrel;go_wp2_with(go_at_call 146;refine b.out.mono ?_;rintro e w1 ⟨rfl,a⟩)
   (try simp only[Exit.inBlock,Exit.then]);refine HT (If rfl _ _ _) rfl ?_
   exact⟨rfl,by first|exact a|rfl⟩
 have f:=aa hp;clear hi hp b;go_enter Tryz.func103,Tryz.ntmps103;go_wp2_with(first|(go_at_call 128;refine c.out.mono ?_;rintro e w' ⟨rfl,rfl⟩)|(go_at_call 127;refine f.out.mono ?_;rintro e w' ⟨rfl,rfl⟩));go_end0;exact⟨rfl,rfl⟩
def Bl{aT:Nat}(a:zj aT)(f:aT<4611686018427387904)(w:World)(base:Nat)(m:TypeId)(v:Value)(xs:List Nat)(own:w.ownsRow base m 1 v xs.length (xs.map en))(hm:xs.length<=aT):
    Calls Tryz.prog 103 #[v] w λe w'=>e=.returned (.tuple #[])/\∃i,vY xs i/\w'.ownsRow base m 1 v i.length (i.map en)/\Kp (λb=>v.ownBlock=some b) w w':=by
 rcases own.2 with⟨rfl,s⟩|⟨g,cap,cur,rfl,t,j,z,u,n,o⟩
 ·have x:xs=[]:=IA s;subst x;refine(xF w).mono λe w' h=>⟨h.1,[],⟨List.Perm.refl _,List.Pairwise.nil⟩,?_,?_⟩
  ·rw[h.2];exact own
  ·rw[h.2];exact Kp.refl _ _
 ·rw[Iu]at n o
  have p:=qM j o;have hsz:xs.toArray.size=xs.length:=by simp
  have q:=aa (Tryz.bits_Len (xs.length:Nat) w (by omega) (by omega));have hp:=λlim (c:lim<4611686018427387904)=>a g cap lim xs.toArray w p (Ih.1 j).1 (by omega) c;rw[hsz]at hp
  rw[HZ]at q
  have y:=aa (hp _ (uW xs.length (by omega)));clear hp a own p;go_enter Tryz.func103,Tryz.ntmps103;go_wp2_with(first|(go_at_call 128;refine q.out.mono ?_;rintro e w' ⟨rfl,rfl⟩)|(go_at_call 127;refine y.out.mono ?_;rintro e A ⟨rfl,d⟩));go_end0;have r:=uV xs (Lib.bitLen xs.length);have k:=r.perm.length_eq;refine⟨rfl,_,r,?_,?_⟩
  ·refine⟨by simp,.inr ⟨g,cap,_,by rw[k],t,xE d j,by omega,u,by simp[putCells,n],?_⟩⟩;rw[Iu];exact zi cur _ (by omega)
  ·refine d.kp.mono λb _ l=> ?_;subst l;rfl
def Bm(i j:Nat)(d:Array Nat)(h:i<j):reverseLoop i j d=reverseLoop (i+1) (j-1) (Sort.swp d i j):=by rw[reverseLoop,Hl h]
def xG(i j:Nat)(d:Array Nat)(h:¬i<j):reverseLoop i j d=d:=by rw[reverseLoop,Hk h]
def xH(blk off cap a b:Nat)(d:Array Nat)(w:World)(p:Holds en w blk off d)(x:a<=b)(y:b<=d.size)(hsz:d.size<4611686018427387904):
    Calls Tryz.prog 150 #[.slice (some ⟨blk,off,none⟩) d.size cap,.int .i64 a,.int .i64 b] w λe w'=>e=.returned (.tuple #[])/\∃n,w'=putRow en (Sort.ahead w n) blk off (Sort.reverseRange d a b):=by
 go_enter Tryz.func150,Tryz.ntmps150;go_wp2;go_loopw [6,7] (λz r wr=>∃(i j n:Nat) (D:Array Nat),z=.int .i64 i/\r=.int .i64 ((j:Int)-1)/\i<=d.size/\j<=d.size/\D.size=d.size/\wr=putRow en (Sort.ahead w n) blk off D/\Hid (reverseLoop i (j-1) D=Sort.reverseRange d a b)) (λ_ r _=>(aI r).toNat)
 case atStart=>exact⟨a,b,0,d,rfl,rfl,by omega,y,rfl,(putRow_self _ _ _ _ _ p).symm,rfl⟩
 case round=>
  obtain⟨i,j,n,D,rfl,rfl,hi,A,h,c,q⟩:=hrel;by_cases f:i<j-1
  ·obtain⟨k,u⟩:∃k,j-1=k:=⟨_,rfl⟩
   have l:(j:Int)-1=(k:Int):=by omega
   rw[u]at f q
   have B:k<d.size:=by omega
   have m:(i:Int)<k:=by omega
   have hid:i<d.size:=by omega
   simp only[l];obtain⟨G,s⟩:∃G:Nat->Nat,∀t,G t=D[t]! :=⟨λt=>D[t]!,λ_=>rfl⟩
   have C:∀t,t<d.size->wr.cell? ⟨blk,off+t,none⟩=some (en (G t)):=λt ht=>by
    rw[c,s];exact cell?_putRow _ _ _ _ d D (holds_ahead _ _ _ _ _ _ p) h t (by omega)
   have E:∀t,t<d.size->wr.frozen? ⟨blk,off+t,none⟩=false:=λt ht=>by
    rw[c,frozen?_putRow];exact((holds_ahead _ _ n _ _ _ p) t ht).2
   have F:=aa c;have v:=aa s;have H:Hid ((k:Int)-1=(((k:Nat):Int))-1):=rfl;clear c s p u l A;go_wp2;go_region;all_goals go_wp2
   go_roundw
   case rel=>
    refine⟨i+1,k,n+1,Sort.swp D i k,by go_num,rfl,by omega,by omega,by rw[size_swp];exact h,?_,?_⟩
    ·rw[F.out,v.out,v.out];exact swap_worldA _ w n 1 blk off D i k (by omega) (by omega)
    ·show _=_;rw[<-q.out,Bm _ _ _ f]
   case measure=>first|(simp[aI];done)|(simp[aI];omega)
  ·have m:¬(i:Int)<(j:Int)-1:=by omega
   have g:=q.out;rw[xG _ _ _ f]at g
   have o:=aa g;clear g q;go_wp2;go_end0;exact⟨rfl,n,by first|(rw[<-o.out];done)|(rw[<-o.out];exact c)⟩
def uX(blk off cap lo H F:Nat)(d:Array Nat)(w:World)(R:Holds en w blk off d)(T:lo<=H)(hb:F+H<=d.size)(hsz:d.size<2305843009213693952):
    Calls Tryz.prog 159 #[.slice (some ⟨blk,off,none⟩) d.size cap,.int .i64 lo,.int .i64 H,.int .i64 F] w λe w'=>e=.returned (.tuple #[])/\∃n,w'=putRow en (Sort.ahead w n) blk off (Sort.siftDown ak H F lo d):=by
 go_enter Tryz.func159,Tryz.ntmps159;go_wp2;go_loopw [8] (λU wr=>∃(r n:Nat) (D:Array Nat),U=.int .i64 r/\r<=H/\D.size=d.size/\wr=putRow en (Sort.ahead w n) blk off D/\Hid (siftDown ak H F r D=siftDown ak H F lo d)) (λU _=>H-(aI U).toNat)
 case atStart=>exact⟨lo,0,d,rfl,T,rfl,(putRow_self _ _ _ _ _ R).symm,rfl⟩
 case round=>
  obtain⟨r,n,D,rfl,hr,y,j,k⟩:=hrel;by_cases he:H<=2*r+1
  ·have C:(H:Int)<=2*(r:Int)+1:=by omega
   have a:=k.out;rw[sd_end ak D he]at a
   have g:=aa a;clear a k;go_wp2;go_end0;exact⟨rfl,n,by first|(rw[<-g.out];done)|(rw[<-g.out];exact j)⟩
  ·have C:¬(H:Int)<=2*(r:Int)+1:=by omega
   obtain⟨c,B⟩:∃c,2*r+1=c:=⟨_,rfl⟩
   have L:2*(r:Int)+1=(c:Int):=by omega
   have ac:c<H:=by omega
   obtain⟨G,V⟩:∃G:Nat->Nat,∀t,G t=D[t]! :=⟨λt=>D[t]!,λ_=>rfl⟩
   have z:∀t,t<d.size->wr.cell? ⟨blk,off+t,none⟩=some (en (G t)):=λt ht=>by
    rw[j,V];exact cell?_putRow _ _ _ _ d D (holds_ahead _ _ _ _ _ _ R) y t (by omega)
   have A:∀t,t<d.size->wr.frozen? ⟨blk,off+t,none⟩=false:=λt ht=>by
    rw[j,frozen?_putRow];exact((holds_ahead _ _ n _ _ _ R) t ht).2
   have S:=aa j;have b:=aa V;clear j V R;by_cases M:c+1<H
   ·obtain⟨e,E⟩:∃e,c+1=e:=⟨_,rfl⟩
    have N:(c:Int)+1=(e:Int):=by omega
    have i:(e:Int)<H:=by omega
    have l:decide ((e:Int)<(H:Int))=true:=Hz i;go_wp2_with fail;go_quiet (first|(go_at_call 152;refine Calls.quiet_of_same (less _ _ _)))
    obtain⟨n1,rfl⟩:∃n1,n1=nq:=⟨_,rfl⟩
    have m:∀t,t<d.size->(wr.drewN n1).cell? ⟨blk,off+t,none⟩=some (en (G t)):=z;have o:∀t,t<d.size->(wr.drewN n1).frozen? ⟨blk,off+t,none⟩=false:=A;have f:Hid (wr.drewN n1=putRow en (Sort.ahead w (n+n1)) blk off D):=by show _=_;rw[S.out];exact putRow_drewN _ _ _ _ _ _ _
    clear z A S;generalize wr.drewN n1=W at m o f ⊢;have X:(F:Int)+(r:Int)<2305843009213693952:=by omega
    have O:F+r<d.size:=by omega
    have P:G (F+c+1)=G (F+e):=by rw[<-E];rfl
    by_cases Q:ak (G (F+c)) (G (F+c+1))=true
    ·have p:ak D[F+(2*r+1)]! D[F+(2*r+2)]! =true:=by rw[<-b.out,<-b.out,B,show F+(2*r+2)=F+c+1 by omega];exact Q
     have I:Hid (2*r+2=e):=by show _=_;omega
     have Y:r<e:=by omega
     have ad:F+e<d.size:=by omega
     have Z:(F:Int)+(e:Int)<2305843009213693952:=by omega
     have ae:e<H:=by omega
     have q:2*r+1<H/\2*r+2<H:=by omega
     have s:=aa p;have u:=aa q;clear P E L B C he l p q M;simp only[Q];clear Q;by_cases v:ak (G (F+r)) (G (F+e))=true
     ·go_wp2_with fail;go_quiet (first|(go_at_call 152;refine Calls.quiet_of_same (less _ _ _)))
      go_wp2_with fail;go_region;all_goals go_wp2
      go_roundw
      case rel=>
       refine⟨e,n+n1+(nq+1),Sort.swp D (F+r) (F+e),rfl,by omega,by rw[size_swp];exact y,?_,?_⟩;rotate_left
       ·show _=_;rw[<-k.out,sd_right_go ak D u.out.2 s.out (by rw[I.out,<-b.out,<-b.out];exact v),I.out]
       ·rw[f.out,b.out,b.out];exact swap_worldA _ w (n+n1) _ blk off D (F+r) (F+e) (by omega) (by omega)
      case measure=>first|(simp[aI];done)|(simp[aI];omega)
     ·have x:ak (G (F+r)) (G (F+e))=false:=by simpa using v
      have a:=k.out;rw[sd_right_stop ak D u.out.2 s.out (by rw[I.out,<-b.out,<-b.out];exact x)]at a
      have g:=aa a;clear a k v;go_wp2_with fail;go_quiet (first|(go_at_call 152;refine Calls.quiet_of_same (less _ _ _)))
      go_wp2
      (try simp only[Exit.inBlock,Exit.then]);refine HT (If rfl _ _ _) rfl ?_
      exact⟨rfl,_,by rw[f.out,<-g.out];exact putRow_drewN _ _ _ _ _ _ _⟩
    ·have J:ak (G (F+c)) (G (F+c+1))=false:=by simpa using Q
     have p:ak D[F+(2*r+1)]! D[F+(2*r+2)]! =false:=by rw[<-b.out,<-b.out,B,show F+(2*r+2)=F+c+1 by omega];exact J
     have s:=aa p;have q:2*r+1<H:=by omega
     have u:=aa q;have K:Hid (2*r+1=c):=B;have Y:r<c:=by omega
     clear P Q E N L B C he l p q M i;simp only[J];clear J;by_cases v:ak (G (F+r)) (G (F+c))=true
     ·go_wp2_with fail;go_quiet (first|(go_at_call 152;refine Calls.quiet_of_same (less _ _ _)))
      go_wp2_with fail;go_region;all_goals go_wp2
      go_roundw
      case rel=>
       refine⟨c,n+n1+(nq+1),Sort.swp D (F+r) (F+c),rfl,by omega,by rw[size_swp];exact y,?_,?_⟩;rotate_left
       ·show _=_;rw[<-k.out,sd_left_go ak D u.out (λ_=>s.out) (by rw[K.out,<-b.out,<-b.out];exact v),K.out]
       ·rw[f.out,b.out,b.out];exact swap_worldA _ w (n+n1) _ blk off D (F+r) (F+c) (by omega) (by omega)
      case measure=>first|(simp[aI];done)|(simp[aI];omega)
     ·have x:ak (G (F+r)) (G (F+c))=false:=by simpa using v
      have a:=k.out;rw[sd_left_stop ak D u.out (λ_=>s.out) (by rw[K.out,<-b.out,<-b.out];exact x)]at a
      have g:=aa a;clear a k v;go_wp2_with fail;go_quiet (first|(go_at_call 152;refine Calls.quiet_of_same (less _ _ _)))
      go_wp2
      (try simp only[Exit.inBlock,Exit.then]);refine HT (If rfl _ _ _) rfl ?_
      exact⟨rfl,_,by rw[f.out,<-g.out];exact putRow_drewN _ _ _ _ _ _ _⟩
   ·have i:¬(c:Int)+1<H:=by omega
    have l:decide ((c:Int)+1<(H:Int))=false:=HN i;go_wp2_with fail;go_quiet (first|(go_at_call 152;refine Calls.quiet_of_same (less _ _ _)))
    obtain⟨n1,rfl⟩:∃n1,n1=nq:=⟨_,rfl⟩
    have m:∀t,t<d.size->(wr.drewN n1).cell? ⟨blk,off+t,none⟩=some (en (G t)):=z;have o:∀t,t<d.size->(wr.drewN n1).frozen? ⟨blk,off+t,none⟩=false:=A;have f:Hid (wr.drewN n1=putRow en (Sort.ahead w (n+n1)) blk off D):=by show _=_;rw[S.out];exact putRow_drewN _ _ _ _ _ _ _
    clear z A S;generalize wr.drewN n1=W at m o f ⊢;have X:(F:Int)+(r:Int)<2305843009213693952:=by omega
    have O:F+r<d.size:=by omega
    by_cases v:ak (G (F+r)) (G (F+c))=true
    ·go_wp2_with fail;go_quiet (first|(go_at_call 152;refine Calls.quiet_of_same (less _ _ _)))
     go_wp2_with fail;go_region;all_goals go_wp2
     go_roundw
     case rel=>
      refine⟨c,n+n1+(nq+1),Sort.swp D (F+r) (F+c),rfl,by omega,by rw[size_swp];exact y,?_,?_⟩;rotate_left
      ·show _=_;rw[<-k.out,sd_left_go ak D (by omega) (λh=>absurd h (by omega)) (by rw[B,<-b.out,<-b.out];exact v),B]
      ·rw[f.out,b.out,b.out];exact swap_worldA _ w (n+n1) _ blk off D (F+r) (F+c) (by omega) (by omega)
     case measure=>first|(simp[aI];done)|(simp[aI];omega)
    ·have x:ak (G (F+r)) (G (F+c))=false:=by simpa using v
     have a:=k.out;rw[sd_left_stop ak D (by omega) (λh=>absurd h (by omega)) (by rw[B,<-b.out,<-b.out];exact x)]at a
     have g:=aa a;clear a k v;go_wp2_with fail;go_quiet (first|(go_at_call 152;refine Calls.quiet_of_same (less _ _ _)))
     go_wp2
     (try simp only[Exit.inBlock,Exit.then]);refine HT (If rfl _ _ _) rfl ?_
     exact⟨rfl,_,by rw[f.out,<-g.out];exact putRow_drewN _ _ _ _ _ _ _⟩
def o9(H F:Nat):∀(m r:Nat) (d:Array Nat),H-r<=m->(siftDown ak H F r d).size=d.size:=by
 intro m;induction m with
 |zero=>intro r d h;rw[sd_end ak d (by omega)]
 |succ m c=>
  intro r d h;by_cases f:H<=2*r+1
  ·rw[sd_end ak d f]
  ·by_cases a:2*r+2<H/\ak d[F+(2*r+1)]! d[F+(2*r+2)]! =true
   ·cases b:ak d[F+r]! d[F+(2*r+2)]! with
    |false=>rw[sd_right_stop ak d a.1 a.2 b]
    |true=>rw[sd_right_go ak d a.1 a.2 b,c _ _ (by omega),size_swp]
   ·have e:2*r+2<H->ak d[F+(2*r+1)]! d[F+(2*r+2)]! =false:=λh=>by
     cases g:ak d[F+(2*r+1)]! d[F+(2*r+2)]! with
     |false=>rfl
     |true=>exact absurd ⟨h,g⟩ a
    cases b:ak d[F+r]! d[F+(2*r+1)]! with
    |false=>rw[sd_left_stop ak d (by omega) e b]
    |true=>rw[sd_left_go ak d (by omega) e b,c _ _ (by omega),size_swp]
def DU(blk off cap a b:Nat)(d:Array Nat)(w:World)(O:Holds en w blk off d)(X:a<=b)(hb:b<=d.size)(hsz:d.size<2305843009213693952):
    Calls Tryz.prog 147 #[.slice (some ⟨blk,off,none⟩) d.size cap,.int .i64 a,.int .i64 b] w λe w'=>e=.returned (.tuple #[])/\∃n,w'=putRow en (Sort.ahead w n) blk off (Sort.heapSort ak d a b):=by
 obtain⟨h,P⟩:∃h,b-a=h:=⟨_,rfl⟩
 have Y:(b:Int)-(a:Int)=(h:Int):=by omega
 obtain⟨r,s⟩:∃k,(h-1)/2+1=k:=⟨_,rfl⟩
 have hq:((h:Int)-1).tdiv 2=(r:Int)-1:=by
  by_cases Z:h=0
  ·subst Z;subst s;rfl
  ·rw[Lg (by omega)];omega
 have ac:a+h<=d.size:=by omega
 have ad:Hid (heapPop ak a h (heapBuild ak h a r d)=Sort.heapSort ak d a b):=by show _=_;unfold Sort.heapSort;rw[P,s]
 have Q:r<=h+1:=by omega
 have R:=aa (λ(lo hi:Nat) (D:Array Nat) (W:World) (h1:Holds en W blk off D) (h2:lo<=hi) (h3:a+hi<=D.size) (h4:D.size=d.size)=>(by have:=uX blk off cap lo hi a D W h1 h2 h3 (by omega);rw[h4]at this;exact this:Calls Tryz.prog 159 #[.slice (some ⟨blk,off,none⟩) d.size cap,.int .i64 lo,.int .i64 hi,.int .i64 a] W λe w'=>e=.returned (.tuple #[])/\∃n,w'=putRow en (Sort.ahead W n) blk off (Sort.siftDown ak hi a lo D)));have A:=aa O;clear P s O;go_enter Tryz.func147,Tryz.ntmps147;go_wp2_with fail;go_loopw [9] (λv wr=>∃(k n:Nat) (D:Array Nat),v=.int .i64 ((k:Int)-1)/\k<=r/\D.size=d.size/\wr=putRow en (Sort.ahead w n) blk off D/\Hid (heapBuild ak h a k D=heapBuild ak h a r d)) (λv _=>(aI v+1).toNat)
 case atStart=>exact⟨r,0,d,rfl,by omega,rfl,(putRow_self _ _ _ _ _ A.out).symm,rfl⟩
 case round=>
  obtain⟨k,n,D,rfl,hk,p,c,q⟩:=hrel;have u:Holds en wr blk off D:=by rw[c];exact holds_putRow _ _ _ _ d D (holds_ahead _ _ _ _ _ _ A.out) p
  have J:=aa c;cases k with
  |succ j=>
   have i:((j+1:Nat):Int)-1=(j:Int):=by omega
   simp only[i];have T:=aa (R.out j h D wr u (by omega) (by omega) p);clear i c u;go_wp2_with fail;refine T.out.mono ?_;rintro e S ⟨rfl,m,rfl⟩;have x:(siftDown ak h a j D).size=D.size:=o9 h a _ j D (Hm _);have f:=aa x;go_wp2_with fail;go_roundw
   case rel=>exact⟨j,n+m,siftDown ak h a j D,rfl,by omega,by rw[f.out];exact p,by rw[J.out];exact putRow_ahead_putRow _ _ _ _ _ _ _ _ f.out,q.out⟩
   case measure=>first|(simp[aI];done)|(simp[aI];omega)
  |zero=>
   have l:D=heapBuild ak h a r d:=q.out;have K:=aa l;clear l q c u;have L:((0:Nat):Int)-1= -1:=rfl;simp only[L];go_wp2_with fail;go_loopw [10] (λv wr=>∃(k n:Nat) (E:Array Nat),v=.int .i64 ((k:Int)-1)/\k<=h/\E.size=d.size/\wr=putRow en (Sort.ahead w n) blk off E/\Hid (heapPop ak a k E=heapPop ak a h D)) (λv _=>(aI v+1).toNat)
   case atStart=>exact⟨h,n,D,rfl,by omega,p,J.out,rfl⟩
   case round=>
    obtain⟨k,n2,E,rfl,hk,o,c,q⟩:=hrel;cases k with
    |zero=>
     have l:E=heapPop ak a h D:=q.out;have M:=aa l;have N:=aa c;clear l q c;go_wp2;go_end0;exact⟨rfl,n2,by rw[N.out,M.out,K.out,ad.out]⟩
    |succ j=>
     have i:((j+1:Nat):Int)-1=(j:Int):=by omega
     simp only[i];obtain⟨G,I⟩:∃G:Nat->Nat,∀t,G t=E[t]! :=⟨λt=>E[t]!,λ_=>rfl⟩
     have B:∀t,t<d.size->wr.cell? ⟨blk,off+t,none⟩=some (en (G t)):=λt ht=>by
      rw[c,I];exact cell?_putRow _ _ _ _ d E (holds_ahead _ _ _ _ _ _ A.out) o t (by omega)
     have C:∀t,t<d.size->wr.frozen? ⟨blk,off+t,none⟩=false:=λt ht=>by
      rw[c,frozen?_putRow];exact((holds_ahead _ _ n2 _ _ _ A.out) t ht).2
     have y:((wr.drewN 1).setCell ⟨blk,off+a,none⟩ (en (G (a+j)))).setCell ⟨blk,off+(a+j),none⟩ (en (G a))=putRow en (Sort.ahead w (n2+1)) blk off (Sort.swp E a (a+j)):=by
      rw[c,I,I];exact swap_worldA _ w n2 1 blk off E a (a+j) (by omega) (by omega)
     have F:Holds en (putRow en (Sort.ahead w (n2+1)) blk off (Sort.swp E a (a+j))) blk off (Sort.swp E a (a+j)):=holds_putRow _ _ _ _ d _ (holds_ahead _ _ _ _ _ _ A.out) (by rw[size_swp];exact o);have T:=R.out 0 j (Sort.swp E a (a+j)) _ F (Hv _) (by rw[size_swp];omega) (by rw[size_swp];exact o);rw[<-y]at T
     have H:=aa y;have U:=aa T;have V:a+j<d.size:=by omega
     clear i T y F c I J;rcases Js j with rfl|ae
     ·go_wp2_with fail;go_region;all_goals go_wp2_with fail
      refine U.out.mono ?_;rintro e S ⟨rfl,m,g⟩;rw[H.out]at g
      have z:=aa g;have x:(siftDown ak 0 a 0 (Sort.swp E a (a+0))).size=E.size:=by rw[o9 0 a _ 0 _ (Hm _),size_swp]
      have f:=aa x;clear g x B C;go_wp2_with fail;go_roundw
      case rel=>exact⟨0,n2+1+m,siftDown ak 0 a 0 (Sort.swp E a (a+0)),rfl,by omega,by rw[f.out];exact o,by rw[z.out];exact putRow_ahead_putRow _ _ _ _ _ _ _ _ (by rw[f.out,size_swp]),q.out⟩
      case measure=>first|(simp[aI];done)|(simp[aI];omega)
     ·go_wp2_with fail;go_region;all_goals go_wp2_with fail
      refine U.out.mono ?_;rintro e S ⟨rfl,m,g⟩;rw[H.out]at g
      have z:=aa g;have x:(siftDown ak j a 0 (Sort.swp E a (a+j))).size=E.size:=by rw[o9 j a _ 0 _ (Hm _),size_swp]
      have f:=aa x;clear g x B C;go_wp2_with fail;go_roundw
      case rel=>exact⟨j,n2+1+m,_,rfl,by omega,by rw[f.out];exact o,by rw[z.out];exact putRow_ahead_putRow _ _ _ _ _ _ _ _ (by rw[f.out,size_swp]),q.out⟩
      case measure=>first|(simp[aI];done)|(simp[aI];omega)
def DV(x y:Nat)(W:World):Calls Tryz.prog 152 #[en x,en y] W λe w'=>e=.returned (.bool (ak x y))/\Kp ae W w':=
 (less x y W).mono λe w' ⟨a,b⟩=>⟨a,b▸Kp.refl _ _⟩
structure Sw (blk off:Nat) (d:Array Nat) (sb s:Nat) (w W:World):Prop where
 row:Holds en W blk off d
 cnt:ag W sb [.int .i64 (s:Int)] 3
 kp:Kp (λb=>b=sb) w W
def Sw.next{blk off sb s a:Nat}{d:Array Nat}{w W b:World}(h:Sw blk off d sb s w W)(k:Sw blk off d sb a W b):Sw blk off d sb a w b:=⟨k.row,k.cnt,h.kp.trans k.kp⟩
def o_(blk off cap a b sb s:Nat)(d:Array Nat)(w W:World)(h:Sw blk off d sb s w W)(v:sb≠blk)(m:blk<W.heap.size)(ha:a<d.size)(C:b<d.size)(hsz:d.size<2305843009213693952)(H:s<1000):
    Calls Tryz.prog 165 #[.slice (some ⟨blk,off,none⟩) d.size cap,.int .i64 a,.int .i64 b,.pointer (some ⟨sb,0,none⟩)] W λe w'=>
     e=.returned (.tuple #[.int .i64 ((order2 ak d a b s).1:Nat),.int .i64 ((order2 ak d a b s).2.1:Nat)])/\Sw blk off d sb (order2 ak d a b s).2.2 W w':=by
 obtain⟨G,n⟩:∃G:Nat->Nat,∀t,G t=d[t]! :=⟨λt=>d[t]!,λ_=>rfl⟩
 have o:W.cell? ⟨blk,off+a,none⟩=some (en (G a)):=by rw[n];exact(h.row a ha).1
 have q:W.cell? ⟨blk,off+b,none⟩=some (en (G b)):=by rw[n];exact(h.row b C).1
 have c0:=h.cnt.ai;have f0:=h.cnt.fz 0;have r:=aa h;have k:=aa (λW=>DV (G b) (G a) W);have D:(a:Int)<d.size:=by omega
 have E:(b:Int)<d.size:=by omega
 have A:order2 ak d a b s=if ak (G b) (G a)then(b,a,s+1)else(a,b,s):=by unfold order2;rw[n,n]
 rw[A];clear h n A;cases u:ak (G b) (G a)with
 |true=>
  rw[u]at k
  simp only[if_true];clear u;go_enter Tryz.func165,Tryz.ntmps165;go_wp2_with fail;refine ar 8 (by kernel_rfl) (λ_ _ _ _ _ h=>h) ?_;simp only[aO]
  repeat((first
   |refine ay (by rfl) (by as_aux_lemma=>intro W i;have B:=i.cell o (λx=>x);have F:=i.cell q (λx=>x);go_simp;exact rfl) ?_
   |refine ah (by rfl) ?_
   |refine aR (by rfl) (by as_aux_lemma=>intro W;go_simp;exact⟨rfl,rfl⟩) (by intro W i;with_reducible first|exact k.out W) ?_);simp only[Act.put,aH])
  intro y f;have j:=aa f;clear f;go_wp2_with fail;refine(k.out y).mono ?_;rintro e w3 ⟨rfl,k3⟩;have l:=j.out.trans k3;have g:=r.out.cnt.kp l id;have B:=g.ai;have g0:=g.fz 0;have z:=aa g;have c:=aa l;clear k3 l g o q c0 f0;go_wp2_with fail;go_ret2;refine⟨rfl,hs r.out.row ?_,?_,(c.out.mono (T:=λb=>b=sb) (λ_ _ x=>x.elim)).set (p:=⟨sb,0,none⟩) (.inl rfl) _⟩
  ·exact(J_ _ _ _ _ (λe=>v e.symm)).trans (c.out.block blk m id)
  ·exact z.out.set 0 _
 |false=>
  rw[u]at k
  simp only[Jo,Jp];clear u;go_enter Tryz.func165,Tryz.ntmps165;go_wp2_with fail;refine ar 8 (by kernel_rfl) (λ_ _ _ _ _ h=>h) ?_;simp only[aO]
  repeat((first
   |refine ay (by rfl) (by as_aux_lemma=>intro W i;have B:=i.cell o (λx=>x);have F:=i.cell q (λx=>x);go_simp;exact rfl) ?_
   |refine ah (by rfl) ?_
   |refine aR (by rfl) (by as_aux_lemma=>intro W;go_simp;exact⟨rfl,rfl⟩) (by intro W i;with_reducible first|exact k.out W) ?_);simp only[Act.put,aH])
  intro y f;have j:=aa f;clear f;go_wp2_with fail;refine(k.out y).mono ?_;rintro e w3 ⟨rfl,k3⟩;have l:=j.out.trans k3;have c:=aa l;clear k3 l o q c0 f0;go_wp2_with fail;go_ret2;exact⟨rfl,hs r.out.row (c.out.block blk m id),r.out.cnt.kp c.out id,c.out.mono (λ_ _ x=>x.elim)⟩
def gE{d:Array Nat}{a b s n:Nat}(ha:a<n)(c:b<n):(order2 ak d a b s).1<n/\(order2 ak d a b s).2.1<n/\(order2 ak d a b s).2.2<=s+1:=by
 unfold order2;split<;>simp only<;>omega
def pa(blk off cap a b c sb s:Nat)(d:Array Nat)(w W:World)(h:Sw blk off d sb s w W)(f:sb≠blk)(g:blk<W.heap.size)(ha:a<d.size)(x:b<d.size)(y:c<d.size)(hsz:d.size<2305843009213693952)(G:s<900):
    Calls Tryz.prog 163 #[.slice (some ⟨blk,off,none⟩) d.size cap,.int .i64 a,.int .i64 b,.int .i64 c,.pointer (some ⟨sb,0,none⟩)] W λe w'=>
     e=.returned (.int .i64 ((median ak d a b c s).1:Nat))/\Sw blk off d sb (median ak d a b c s).2 W w':=by
 obtain⟨⟨a1,b1,s1⟩,k⟩:∃r,order2 ak d a b s=r:=⟨_,rfl⟩
 have i:=gE (d:=d) (s:=s) ha x;obtain⟨⟨b2,H,s2⟩,l⟩:∃r,order2 ak d b1 c s1=r:=⟨_,rfl⟩
 rw[k]at i
 simp only at i;have l2:=gE (d:=d) (s:=s1) i.2.1 y;obtain⟨⟨a3,E,s3⟩,m⟩:∃r,order2 ak d a1 b2 s2=r:=⟨_,rfl⟩
 rw[l]at l2
 simp only at l2;have n:=gE (d:=d) (s:=s2) i.1 l2.1;rw[m]at n
 simp only at n;have hm:median ak d a b c s=(E,s3):=by unfold median;simp only[k,l,m]
 rw[hm];have o:=o_ blk off cap a b sb s d w W h f g ha x hsz (by omega);rw[k]at o
 have p:=λj (hS:Sw blk off d sb s1 W j)=>o_ blk off cap b1 c sb s1 d W j hS f (HP g hS.kp.size) i.2.1 y hsz (by omega);simp only[l]at p;have q:=λj (hS:Sw blk off d sb s2 W j)=>o_ blk off cap a1 b2 sb s2 d W j hS f (HP g hS.kp.size) i.1 l2.1 hsz (by omega);simp only[m]at q;have t:=aa o;have u:=aa p;have v:=aa q;clear k l m hm o p q h i l2 n;go_enter Tryz.func163,Tryz.ntmps163;go_wp2_with fail;refine(t.out).mono ?_;rintro e w1 ⟨rfl,z⟩;have A:=aa z;clear z;go_wp2_with fail;refine(u.out _ A.out).mono ?_;rintro e I ⟨rfl,B⟩;have C:=aa (A.out.next B);clear B;go_wp2_with fail;refine(v.out _ C.out).mono ?_;rintro e w3 ⟨rfl,D⟩;have F:=aa (C.out.next D);clear D;go_wp2_with fail;go_ret;exact⟨rfl,F.out⟩
def uY{d:Array Nat}{a b c s n:Nat}(ha:a<n)(f:b<n)(g:c<n):(median ak d a b c s).1<n/\(median ak d a b c s).2<=s+3:=by
 unfold median;have e:=gE (d:=d) (s:=s) ha f;have l2:=gE (d:=d) (s:=(order2 ak d a b s).2.2) e.2.1 g;have h:=gE (d:=d) (s:=(order2 ak d (order2 ak d a b s).2.1 c (order2 ak d a b s).2.2).2.2) e.1 l2.1;simp only;exact⟨h.2.1,by omega⟩
def lC(blk off cap a sb s:Nat)(d:Array Nat)(w W:World)(h:Sw blk off d sb s w W)(b:sb≠blk)(c:blk<W.heap.size)(k:1<=a)(ha:a+1<d.size)(hsz:d.size<2305843009213693952)(g:s<900):
    Calls Tryz.prog 162 #[.slice (some ⟨blk,off,none⟩) d.size cap,.int .i64 a,.pointer (some ⟨sb,0,none⟩)] W λe w'=>
     e=.returned (.int .i64 ((medianAdjacent ak d a s).1:Nat))/\Sw blk off d sb (medianAdjacent ak d a s).2 W w':=by
 have C:=pa blk off cap (a-1) a (a+1) sb s d w W h b c (by omega) (by omega) ha hsz g;rw[show((a-1:Nat):Int)=(a:Int)-1 by omega,show((a+1:Nat):Int)=(a:Int)+1 by omega]at C
 have i:=aa C;unfold medianAdjacent;clear C h;go_enter Tryz.func162,Tryz.ntmps162;go_wp2_with fail;refine(i.out).mono ?_;rintro e w1 ⟨rfl,f⟩;have j:=aa f;clear f;go_wp2_with fail;go_ret;exact⟨rfl,j.out⟩
def lD:Hint->Int| .unknown=>0| .increasing=>1| .decreasing=>2
def ju{d:Array Nat}{a s n:Nat}(b:1<=a)(ha:a+1<n):(medianAdjacent ak d a s).1<n/\(medianAdjacent ak d a s).2<=s+3:=by
 unfold medianAdjacent;exact uY (by omega) (by omega) ha
def qa(blk off cap a b:Nat)(d:Array Nat)(w:World)(P:Holds en w blk off d)(Q:blk<w.heap.size)(af:12<b-a)(hb:b<=d.size)(hsz:d.size<2305843009213693952):
    Calls Tryz.prog 149 #[.slice (some ⟨blk,off,none⟩) d.size cap,.int .i64 a,.int .i64 b] w λe w'=>
     e=.returned (.tuple #[.int .i64 ((choosePivot ak d a b).1:Nat),.int .i64 (lD (choosePivot ak d a b).2)])/\Kp ae w w':=by
 obtain⟨l,R⟩:∃l,b-a=l:=⟨_,rfl⟩
 have ah:(b:Int)-(a:Int)=(l:Int):=by omega
 obtain⟨q,S⟩:∃q,l/4=q:=⟨_,rfl⟩
 have aj:(l:Int).tdiv 4=(q:Int):=by rw[Lg (by omega)];omega
 have al:3<=q:=by omega
 have an:a+q*3+1<d.size:=by omega
 obtain⟨i,hi⟩:∃i,a+q=i:=⟨_,rfl⟩
 obtain⟨j,T⟩:∃j,a+q*2=j:=⟨_,rfl⟩
 obtain⟨k,U⟩:∃k,a+q*3=k:=⟨_,rfl⟩
 have ao:(a:Int)+(q:Int)=(i:Int):=by omega
 have aq:(a:Int)+(q:Int)*2=(j:Int):=by omega
 have ar:(a:Int)+(q:Int)*3=(k:Int):=by omega
 have g:=(Kp.refl ae w).alloc (.cells #[.int .i64 0] 3);have t:Sw blk off d w.heap.size 0 (w.alloc (.cells #[.int .i64 0] 3)) (w.alloc (.cells #[.int .i64 0] 3)):=⟨hs P (g.block blk Q id),ag.new w _ _,Kp.refl _ _⟩
 have au:=aa t;have I:=aa g;have u:w.heap.size≠blk:=by omega
 have m:blk<(w.alloc (.cells #[.int .i64 0] 3)).heap.size:=by simp;omega
 have av:(q:Int)<=2305843009213693952:=by omega
 have o:choosePivot ak d a b=(let r:Nat×Nat:=if l≥50 then median ak d (medianAdjacent ak d i 0).1 (medianAdjacent ak d j (medianAdjacent ak d i 0).2).1 (medianAdjacent ak d k (medianAdjacent ak d j (medianAdjacent ak d i 0).2).2).1 (medianAdjacent ak d k (medianAdjacent ak d j (medianAdjacent ak d i 0).2).2).2 else median ak d i j k 0
  (r.1,if r.2=0 then .increasing else if r.2=12 then .decreasing else .unknown)):=by
  unfold choosePivot;simp only[R,S,Iu,hi,T,U];rw[Hl (by omega)]
 by_cases y:50<=l
 ·have J:(50:Int)<=(l:Int):=by omega
  obtain⟨⟨i1,s1⟩,K⟩:∃r,medianAdjacent ak d i 0=r:=⟨_,rfl⟩
  have L:=ju (d:=d) (a:=i) (s:=0) (n:=d.size) (by omega) (by omega);rw[K]at L
  simp only at L;obtain⟨⟨j1,s2⟩,M⟩:∃r,medianAdjacent ak d j s1=r:=⟨_,rfl⟩
  have l2:=ju (d:=d) (a:=j) (s:=s1) (n:=d.size) (by omega) (by omega);rw[M]at l2
  simp only at l2;obtain⟨⟨k1,s3⟩,N⟩:∃r,medianAdjacent ak d k s2=r:=⟨_,rfl⟩
  have O:=ju (d:=d) (a:=k) (s:=s2) (n:=d.size) (by omega) (by omega);rw[N]at O
  simp only at O;obtain⟨⟨z,p⟩,B⟩:∃r,median ak d i1 j1 k1 s3=r:=⟨_,rfl⟩
  have c:choosePivot ak d a b=(z,if p=0 then .increasing else if p=12 then .decreasing else .unknown):=by
   rw[o,Hl y];simp only[K,M,N,B]
  have V:=lC blk off cap i w.heap.size 0 d _ _ t u m (by omega) (by omega) hsz (by omega);rw[K]at V
  have W:=λA (hS:Sw blk off d w.heap.size s1 (w.alloc (.cells #[.int .i64 0] 3)) A)=>lC blk off cap j w.heap.size s1 d _ A hS u (HP m hS.kp.size) (by omega) (by omega) hsz (by omega);simp only[M]at W;have X:=λA (hS:Sw blk off d w.heap.size s2 (w.alloc (.cells #[.int .i64 0] 3)) A)=>lC blk off cap k w.heap.size s2 d _ A hS u (HP m hS.kp.size) (by omega) (by omega) hsz (by omega);simp only[N]at X;have C:=λA (hS:Sw blk off d w.heap.size s3 (w.alloc (.cells #[.int .i64 0] 3)) A)=>pa blk off cap i1 j1 k1 w.heap.size s3 d _ A hS u (HP m hS.kp.size) L.1 l2.1 O.1 hsz (by omega);simp only[B]at C;have Y:=aa V;have Z:=aa W;have ac:=aa X;have D:=aa C;have E:=aa c;clear K M N B V W X C c o t g P hi T U S R L l2 O y;go_enter Tryz.func149,Tryz.ntmps149;go_wp2_with fail;refine(Y.out).mono ?_;rintro e w1 ⟨rfl,q1⟩;have Q1:=aa q1;clear q1;go_wp2_with fail;refine(Z.out _ Q1.out).mono ?_;rintro e w2 ⟨rfl,q2⟩;have Q2:=aa (Q1.out.next q2);clear q2;go_wp2_with fail;refine(ac.out _ Q2.out).mono ?_;rintro e w3 ⟨rfl,q3⟩;have Q3:=aa (Q2.out.next q3);clear q3;go_wp2_with fail;refine(D.out _ Q3.out).mono ?_;rintro e w4 ⟨rfl,q4⟩;have F:=Q3.out.next q4;have c0:=F.cnt.ai;have G:Hid (Kp ae w w4):=I.out.then F.kp (λi hi x=>by omega);have c:=E.out;clear q4 F;by_cases h:p=0
  ·subst h;have v:Hid (choosePivot ak d a b=(z,.increasing)):=by show _=_;rw[c];rfl
   clear c;go_wp2_with fail;go_ret2;exact⟨by rw[v.out];rfl,G.out⟩
  ·have ad:((p:Int)==0)=false:=by rw[HM];omega
   by_cases f:p=12
   ·subst f;have v:Hid (choosePivot ak d a b=(z,.decreasing)):=by show _=_;rw[c];rfl
    clear c h;go_wp2_with fail;go_ret2;exact⟨by rw[v.out];rfl,G.out⟩
   ·have H:((p:Int)==12)=false:=by rw[HM];omega
    have v:Hid (choosePivot ak d a b=(z,.unknown)):=by show _=_;rw[c,Hk h,Hk f]
    clear c h f;go_wp2_with fail;go_ret2;exact⟨by rw[v.out];rfl,G.out⟩
 ·have J:(l:Int)<50:=by omega
  obtain⟨⟨z,p⟩,B⟩:∃r,median ak d i j k 0=r:=⟨_,rfl⟩
  have c:choosePivot ak d a b=(z,if p=0 then .increasing else if p=12 then .decreasing else .unknown):=by
   rw[o,Hk y];simp only[B]
  have C:=pa blk off cap i j k w.heap.size 0 d _ _ t u m (by omega) (by omega) (by omega) hsz (by omega);rw[B]at C
  have D:=aa C;have E:=aa c;clear B C c o t g P hi T U S R y;go_enter Tryz.func149,Tryz.ntmps149;go_wp2_with fail;refine(D.out).mono ?_;rintro e w4 ⟨rfl,F⟩;have c0:=F.cnt.ai;have G:Hid (Kp ae w w4):=I.out.then F.kp (λi hi x=>by omega);have c:=E.out;clear F;by_cases h:p=0
  ·subst h;have v:Hid (choosePivot ak d a b=(z,.increasing)):=by show _=_;rw[c];rfl
   clear c;go_wp2_with fail;go_ret2;exact⟨by rw[v.out];rfl,G.out⟩
  ·have ad:((p:Int)==0)=false:=by rw[HM];omega
   by_cases f:p=12
   ·subst f;have v:Hid (choosePivot ak d a b=(z,.decreasing)):=by show _=_;rw[c];rfl
    clear c h;go_wp2_with fail;go_ret2;exact⟨by rw[v.out];rfl,G.out⟩
   ·have H:((p:Int)==12)=false:=by rw[HM];omega
    have v:Hid (choosePivot ak d a b=(z,.unknown)):=by show _=_;rw[c,Hk h,Hk f]
    clear c h f;go_wp2_with fail;go_ret2;exact⟨by rw[v.out];rfl,G.out⟩
def xI(blk off cap a b:Nat)(d:Array Nat)(w:World)(hH:Holds en w blk off d)(aF:a<b)(hb:b<=d.size)(hsz:d.size<4611686018427387904):
    Calls Tryz.prog 151 #[.slice (some ⟨blk,off,none⟩) d.size cap,.int .i64 a,.int .i64 b] w λe w'=>
     e=.returned (.bool (Sort.partialInsertionSort ak d a b).2)/\∃n,w'=putRow en (Sort.ahead w n) blk off (Sort.partialInsertionSort ak d a b).1:=by
 have W:=aa hH;have ay:Hid (w=putRow en (Sort.ahead w 0) blk off d):=(putRow_self _ _ _ _ _ hH).symm;clear hH;go_enter Tryz.func151,Tryz.ntmps151;go_wp2
 go_loopw [7,8] (λvi vs wr=>∃(i s n:Nat) (g:Array Nat),vi=.int .i64 i/\vs=.int .i64 s/\s<=5/\a<i/\i<=b/\g.size=d.size/\wr=putRow en (Sort.ahead w n) blk off g/\
  Hid (partialIns ak a b (5-s) i g=partialIns ak a b 5 (a+1) d)) (λ_ vs _=>5-(aI vs).toNat)
 case atStart=>exact⟨a+1,0,0,d,by go_num,rfl,by omega,by omega,by omega,rfl,ay.out,rfl⟩
 case round=>
  obtain⟨i,s,n,g,rfl,rfl,aG,aH,az,ah,Y,L⟩:=hrel;by_cases M:s<5
  ·have aA:(s:Int)<5:=by omega
   have af:=aa Y;clear Y;go_wp2;go_loopw [7] (λvi x=>∃(k m:Nat),vi=.int .i64 k/\i<=k/\k<=b/\x=putRow en (Sort.ahead w m) blk off g/\Hid (scanSorted ak g b k=scanSorted ak g b i)) (λvi _=>b-(aI vi).toNat)
   case atStart=>exact⟨i,n,rfl,Hm _,az,af.out,rfl⟩
   case round=>
    obtain⟨k,m,rfl,aJ,aK,u,hS⟩:=hrel;obtain⟨G,y⟩:∃G:Nat->Nat,∀t,G t=g[t]! :=⟨λt=>g[t]!,λ_=>rfl⟩
    have N:∀t,t<d.size->wr.cell? ⟨blk,off+t,none⟩=some (en (G t)):=λt ht=>by
     rw[u,y];exact cell?_putRow _ _ _ _ d g (holds_ahead _ _ _ _ _ _ W.out) ah t (by omega)
    have O:∀t,t<d.size->wr.frozen? ⟨blk,off+t,none⟩=false:=λt ht=>by
     rw[u,frozen?_putRow];exact((holds_ahead _ _ m _ _ _ W.out) t ht).2
    have J:=aa u;have l:=aa y;clear u y;by_cases ad:k<b
    ·have ai:(k:Int)<b:=by omega
     cases F:ak (G k) (G (k-1))with
     |false=>
      go_wp2;go_quiet (first|(go_at_call 152;refine Calls.quiet_of_same (less _ _ _)))
      go_wp2;go_roundw
      case rel=>
       refine⟨k+1,m+nq,by go_num,by omega,by omega,by rw[J.out];exact putRow_drewN _ _ _ _ _ _ _,?_⟩;show _=_;rw[<-hS.out,scanSorted_go ak g b k ad (by rw[<-l.out,<-l.out];exact F)]
      case measure=>first|(simp[aI];done)|(simp[aI];omega)
     |true=>
      have X:Hid (scanSorted ak g b i=k):=by
       show _=_;rw[<-hS.out,scanSorted_stop ak g b k (Or.inr (by rw[<-l.out,<-l.out];exact F))]
      have aD:((k:Int)==b)=false:=by rw[HM];omega
      by_cases aB:b-a<50
      ·have aj:(b:Int)-a<50:=by omega
       have hv:Sort.partialInsertionSort ak d a b=(g,false):=by
        unfold Sort.partialInsertionSort;rw[<-L.out,pi_short ak a b s i g M (by rw[X.out];omega) aB]
       have ae:=aa hv;clear hv;go_wp2;go_quiet (first|(go_at_call 152;refine Calls.quiet_of_same (less _ _ _)))
       go_wp2;go_ret;exact⟨by rw[ae.out];rfl,m+nq,by rw[ae.out,J.out];exact putRow_drewN _ _ _ _ _ _ _⟩
      ·have aj:¬(b:Int)-a<50:=by omega
       go_wp2;go_quiet (first|(go_at_call 152;refine Calls.quiet_of_same (less _ _ _)))
       go_wp2;go_region;have Z:((wr.drewN (nq+1)).setCell ⟨blk,off+k,none⟩ (en (G (k-1)))).setCell ⟨blk,off+(k-1),none⟩ (en (G k))=putRow en (Sort.ahead w (m+(nq+1))) blk off (Sort.swp g k (k-1)):=by
        rw[J.out,l.out,l.out];exact swap_worldA _ w m (nq+1) blk off g k (k-1) (by omega) (by omega)
       have al:(Sort.swp g k (k-1)).size=d.size:=by rw[size_swp];exact ah
       by_cases an:2<=k-a
       ·have P:(2:Int)<=(k:Int)-a:=by omega
        have ao:=aa Z;clear Z F;go_wp2;rw[ao.out];generalize aq:putRow en (Sort.ahead w (m+(nq+1))) blk off (Sort.swp g k (k-1))=w0;have ag:=aa aq.symm;clear aq ao N O J l
        go_loopw [9] (λI x=>∃(j m2:Nat) (H:Array Nat),I=.int .i64 j/\j<=k-1/\H.size=d.size/\x=putRow en (Sort.ahead w m2) blk off H/\
            Hid (shiftDown ak j H=shiftDown ak (k-1) (Sort.swp g k (k-1)))) (λI _=>(aI I).toNat)
        case atStart=>exact⟨k-1,_,Sort.swp g k (k-1),by congr 1;omega,Hm _,al,ag.out,rfl⟩
        case round=>
         obtain⟨j,m2,H,rfl,ar,ac,u,Q⟩:=hrel;have R:=aa u;by_cases aL:1<=j
         ·have au:(1:Int)<=(j:Int):=by omega
          obtain⟨G,y⟩:∃G:Nat->Nat,∀t,G t=H[t]! :=⟨λt=>H[t]!,λ_=>rfl⟩
          have N:∀t,t<d.size->wr.cell? ⟨blk,off+t,none⟩=some (en (G t)):=λt ht=>by
           rw[u,y];exact cell?_putRow _ _ _ _ d H (holds_ahead _ _ _ _ _ _ W.out) ac t (by omega)
          have O:∀t,t<d.size->wr.frozen? ⟨blk,off+t,none⟩=false:=λt ht=>by
           rw[u,frozen?_putRow];exact((holds_ahead _ _ m2 _ _ _ W.out) t ht).2
          have l:=aa y;clear u y;cases F:ak (G j) (G (j-1))with
          |true=>
           go_wp2;go_quiet (first|(go_at_call 152;refine Calls.quiet_of_same (less _ _ _)))
           go_wp2;go_region;all_goals go_wp2
           go_roundw
           case rel=>
            refine⟨j-1,m2+(nq+1),Sort.swp H j (j-1),by congr 1;omega,by omega,by rw[size_swp];exact ac,?_,?_⟩
            ·rw[R.out,l.out,l.out];exact swap_worldA _ w m2 (nq+1) blk off H j (j-1) (by omega) (by omega)
            ·show _=_;rw[<-Q.out,shiftDown_go ak j H (by omega) (by rw[<-l.out,<-l.out];exact F)]
           case measure=>first|(simp[aI];done)|(simp[aI];omega)
          |false=>
           have K:Hid (fixDown ak a k (Sort.swp g k (k-1))=H):=by
            show _=_;unfold fixDown;rw[Hl an,<-Q.out,shiftDown_stop ak j H (Or.inr (by rw[<-l.out,<-l.out];exact F))]
           go_wp2;go_quiet (first|(go_at_call 152;refine Calls.quiet_of_same (less _ _ _)))
           have z:=ac;obtain⟨h,A⟩:∃h,h=H:=⟨_,rfl⟩
           subst A;obtain⟨v,q⟩:∃v,Hid (wr.drewN nq=putRow en (Sort.ahead w v) blk off h):=⟨m2+nq,by show _=_;rw[R.out];exact putRow_drewN _ _ _ _ _ _ _⟩
           clear R Q ar P ag;by_cases B:2<=b-k
           ·have C:(2:Int)<=(b:Int)-(k:Int):=by omega
            go_wp2;rw[q.out];generalize D:putRow en (Sort.ahead w v) blk off h=wC;have S:Hid (wC=putRow en (Sort.ahead w v) blk off h):=D.symm;clear D q;go_loopw [10] (λI x=>∃(j m3:Nat) (c:Array Nat),I=.int .i64 j/\k+1<=j/\j<=b/\c.size=d.size/\x=putRow en (Sort.ahead w m3) blk off c/\Hid (shiftUp ak b j c=shiftUp ak b (k+1) h)) (λI _=>b-(aI I).toNat)
            case atStart=>exact⟨k+1,v,h,by go_num,Hm _,by omega,z,S.out,rfl⟩
            case round=>
             obtain⟨j,m3,c,rfl,av,aw,p,f,T⟩:=hrel;have U:=aa f;by_cases E:j<b
             ·have r:(j:Int)<b:=by omega
              obtain⟨G,y⟩:∃G:Nat->Nat,∀t,G t=c[t]! :=⟨λt=>c[t]!,λ_=>rfl⟩
              have N:∀t,t<d.size->wr.cell? ⟨blk,off+t,none⟩=some (en (G t)):=λt ht=>by
               rw[f,y];exact cell?_putRow _ _ _ _ d c (holds_ahead _ _ _ _ _ _ W.out) p t (by omega)
              have O:∀t,t<d.size->wr.frozen? ⟨blk,off+t,none⟩=false:=λt ht=>by
               rw[f,frozen?_putRow];exact((holds_ahead _ _ m3 _ _ _ W.out) t ht).2
              have J:=aa f;have l:=aa y;clear f y;cases F:ak (G j) (G (j-1))with
              |true=>
               go_wp2;go_quiet (first|(go_at_call 152;refine Calls.quiet_of_same (less _ _ _)))
               go_wp2;go_region;all_goals go_wp2
               go_roundw
               case rel=>
                refine⟨j+1,m3+(nq+1),Sort.swp c j (j-1),by go_num,by omega,by omega,by rw[size_swp];exact p,?_,?_⟩
                ·rw[J.out,l.out,l.out];exact swap_worldA _ w m3 (nq+1) blk off c j (j-1) (by omega) (by omega)
                ·show _=_;rw[<-T.out,shiftUp_go ak b j c (by omega) (by rw[<-l.out,<-l.out];exact F)]
               case measure=>first|(simp[aI];done)|(simp[aI];omega)
              |false=>
               have o:Hid (fixUp ak b k h=c):=by
                show _=_;unfold fixUp;rw[Hl B,<-T.out,shiftUp_stop ak b j c (Or.inr (by rw[<-l.out,<-l.out];exact F))]
               go_wp2;go_quiet (first|(go_at_call 152;refine Calls.quiet_of_same (less _ _ _)))
               go_wp2;go_roundw
               case rel=>
                refine⟨k,s+1,m3+nq,c,rfl,by go_num,by omega,by omega,by omega,p,by rw[J.out];exact putRow_drewN _ _ _ _ _ _ _,?_⟩;show _=_;rw[<-L.out,pi_go ak a b s i k g M X.out (by omega) (by omega),K.out,o.out]
               case measure=>first|(simp[aI];done)|(simp[aI];omega)
             ·have r:¬(j:Int)<b:=by omega
              clear f;have o:Hid (fixUp ak b k h=c):=by
               show _=_;unfold fixUp;rw[Hl B,<-T.out,shiftUp_stop ak b j c (Or.inl E)]
              go_wp2;go_roundw
              case rel=>
               refine⟨k,s+1,m3,c,rfl,by go_num,by omega,by omega,by omega,p,U.out,?_⟩;show _=_;rw[<-L.out,pi_go ak a b s i k g M X.out (by omega) (by omega),K.out,o.out]
              case measure=>first|(simp[aI];done)|(simp[aI];omega)
           ·have C:¬(2:Int)<=(b:Int)-(k:Int):=by omega
            have o:Hid (fixUp ak b k h=h):=by show _=_;unfold fixUp;rw[Hk (by omega)]
            go_wp2;go_roundw
            case rel=>
             refine⟨k,s+1,v,h,rfl,by go_num,by omega,by omega,by omega,z,q.out,?_⟩;show _=_;rw[<-L.out,pi_go ak a b s i k g M X.out (by omega) (by omega),K.out,o.out]
            case measure=>first|(simp[aI];done)|(simp[aI];omega)
         ·have au:¬(1:Int)<=(j:Int):=by omega
          have K:Hid (fixDown ak a k (Sort.swp g k (k-1))=H):=by
           show _=_;unfold fixDown;rw[Hl an,<-Q.out,shiftDown_stop ak j H (Or.inl (by omega))]
          have z:=ac;obtain⟨h,A⟩:∃h,h=H:=⟨_,rfl⟩
          subst A;obtain⟨v,q⟩:∃v,Hid (wr=putRow en (Sort.ahead w v) blk off h):=⟨m2,R.out⟩
          clear u R Q ar P ag;by_cases B:2<=b-k
          ·have C:(2:Int)<=(b:Int)-(k:Int):=by omega
           go_wp2;rw[q.out];generalize D:putRow en (Sort.ahead w v) blk off h=wC;have S:Hid (wC=putRow en (Sort.ahead w v) blk off h):=D.symm;clear D q;go_loopw [10] (λI x=>∃(j m3:Nat) (c:Array Nat),I=.int .i64 j/\k+1<=j/\j<=b/\c.size=d.size/\x=putRow en (Sort.ahead w m3) blk off c/\Hid (shiftUp ak b j c=shiftUp ak b (k+1) h)) (λI _=>b-(aI I).toNat)
           case atStart=>exact⟨k+1,v,h,by go_num,Hm _,by omega,z,S.out,rfl⟩
           case round=>
            obtain⟨j,m3,c,rfl,av,aw,p,f,T⟩:=hrel;have U:=aa f;by_cases E:j<b
            ·have r:(j:Int)<b:=by omega
             obtain⟨G,y⟩:∃G:Nat->Nat,∀t,G t=c[t]! :=⟨λt=>c[t]!,λ_=>rfl⟩
             have N:∀t,t<d.size->wr.cell? ⟨blk,off+t,none⟩=some (en (G t)):=λt ht=>by
              rw[f,y];exact cell?_putRow _ _ _ _ d c (holds_ahead _ _ _ _ _ _ W.out) p t (by omega)
             have O:∀t,t<d.size->wr.frozen? ⟨blk,off+t,none⟩=false:=λt ht=>by
              rw[f,frozen?_putRow];exact((holds_ahead _ _ m3 _ _ _ W.out) t ht).2
             have J:=aa f;have l:=aa y;clear f y;cases F:ak (G j) (G (j-1))with
             |true=>
              go_wp2;go_quiet (first|(go_at_call 152;refine Calls.quiet_of_same (less _ _ _)))
              go_wp2;go_region;all_goals go_wp2
              go_roundw
              case rel=>
               refine⟨j+1,m3+(nq+1),Sort.swp c j (j-1),by go_num,by omega,by omega,by rw[size_swp];exact p,?_,?_⟩
               ·rw[J.out,l.out,l.out];exact swap_worldA _ w m3 (nq+1) blk off c j (j-1) (by omega) (by omega)
               ·show _=_;rw[<-T.out,shiftUp_go ak b j c (by omega) (by rw[<-l.out,<-l.out];exact F)]
              case measure=>first|(simp[aI];done)|(simp[aI];omega)
             |false=>
              have o:Hid (fixUp ak b k h=c):=by
               show _=_;unfold fixUp;rw[Hl B,<-T.out,shiftUp_stop ak b j c (Or.inr (by rw[<-l.out,<-l.out];exact F))]
              go_wp2;go_quiet (first|(go_at_call 152;refine Calls.quiet_of_same (less _ _ _)))
              go_wp2;go_roundw
              case rel=>
               refine⟨k,s+1,m3+nq,c,rfl,by go_num,by omega,by omega,by omega,p,by rw[J.out];exact putRow_drewN _ _ _ _ _ _ _,?_⟩;show _=_;rw[<-L.out,pi_go ak a b s i k g M X.out (by omega) (by omega),K.out,o.out]
              case measure=>first|(simp[aI];done)|(simp[aI];omega)
            ·have r:¬(j:Int)<b:=by omega
             clear f;have o:Hid (fixUp ak b k h=c):=by
              show _=_;unfold fixUp;rw[Hl B,<-T.out,shiftUp_stop ak b j c (Or.inl E)]
             go_wp2;go_roundw
             case rel=>
              refine⟨k,s+1,m3,c,rfl,by go_num,by omega,by omega,by omega,p,U.out,?_⟩;show _=_;rw[<-L.out,pi_go ak a b s i k g M X.out (by omega) (by omega),K.out,o.out]
             case measure=>first|(simp[aI];done)|(simp[aI];omega)
          ·have C:¬(2:Int)<=(b:Int)-(k:Int):=by omega
           have o:Hid (fixUp ak b k h=h):=by show _=_;unfold fixUp;rw[Hk (by omega)]
           go_wp2;go_roundw
           case rel=>
            refine⟨k,s+1,v,h,rfl,by go_num,by omega,by omega,by omega,z,q.out,?_⟩;show _=_;rw[<-L.out,pi_go ak a b s i k g M X.out (by omega) (by omega),K.out,o.out]
           case measure=>first|(simp[aI];done)|(simp[aI];omega)
       ·have P:¬(2:Int)<=(k:Int)-a:=by omega
        have K:Hid (fixDown ak a k (Sort.swp g k (k-1))=Sort.swp g k (k-1)):=by show _=_;unfold fixDown;rw[Hk (by omega)]
        obtain⟨h,A⟩:∃h,Sort.swp g k (k-1)=h:=⟨_,rfl⟩
        have z:=al;have V:=Z;rw[A]at z V
        have aC:=K;have ax:=A;clear F;obtain⟨v,q⟩:∃v,Hid (((wr.drewN (nq+1)).setCell ⟨blk,off+k,none⟩ (en (G (k-1)))).setCell ⟨blk,off+(k-1),none⟩ (en (G k))=putRow en (Sort.ahead w v) blk off h):=⟨_,V⟩
        replace K:Hid (fixDown ak a k (Sort.swp g k (k-1))=h):=by show _=_;rw[K.out,A]
        clear Z V A ax aC;by_cases B:2<=b-k
        ·have C:(2:Int)<=(b:Int)-(k:Int):=by omega
         go_wp2;rw[q.out];generalize D:putRow en (Sort.ahead w v) blk off h=wC;have S:Hid (wC=putRow en (Sort.ahead w v) blk off h):=D.symm;clear D q;go_loopw [10] (λI x=>∃(j m3:Nat) (c:Array Nat),I=.int .i64 j/\k+1<=j/\j<=b/\c.size=d.size/\x=putRow en (Sort.ahead w m3) blk off c/\Hid (shiftUp ak b j c=shiftUp ak b (k+1) h)) (λI _=>b-(aI I).toNat)
         case atStart=>exact⟨k+1,v,h,by go_num,Hm _,by omega,z,S.out,rfl⟩
         case round=>
          obtain⟨j,m3,c,rfl,av,aw,p,f,T⟩:=hrel;have U:=aa f;by_cases E:j<b
          ·have r:(j:Int)<b:=by omega
           obtain⟨G,y⟩:∃G:Nat->Nat,∀t,G t=c[t]! :=⟨λt=>c[t]!,λ_=>rfl⟩
           have N:∀t,t<d.size->wr.cell? ⟨blk,off+t,none⟩=some (en (G t)):=λt ht=>by
            rw[f,y];exact cell?_putRow _ _ _ _ d c (holds_ahead _ _ _ _ _ _ W.out) p t (by omega)
           have O:∀t,t<d.size->wr.frozen? ⟨blk,off+t,none⟩=false:=λt ht=>by
            rw[f,frozen?_putRow];exact((holds_ahead _ _ m3 _ _ _ W.out) t ht).2
           have J:=aa f;have l:=aa y;clear f y;cases F:ak (G j) (G (j-1))with
           |true=>
            go_wp2;go_quiet (first|(go_at_call 152;refine Calls.quiet_of_same (less _ _ _)))
            go_wp2;go_region;all_goals go_wp2
            go_roundw
            case rel=>
             refine⟨j+1,m3+(nq+1),Sort.swp c j (j-1),by go_num,by omega,by omega,by rw[size_swp];exact p,?_,?_⟩
             ·rw[J.out,l.out,l.out];exact swap_worldA _ w m3 (nq+1) blk off c j (j-1) (by omega) (by omega)
             ·show _=_;rw[<-T.out,shiftUp_go ak b j c (by omega) (by rw[<-l.out,<-l.out];exact F)]
            case measure=>first|(simp[aI];done)|(simp[aI];omega)
           |false=>
            have o:Hid (fixUp ak b k h=c):=by
             show _=_;unfold fixUp;rw[Hl B,<-T.out,shiftUp_stop ak b j c (Or.inr (by rw[<-l.out,<-l.out];exact F))]
            go_wp2;go_quiet (first|(go_at_call 152;refine Calls.quiet_of_same (less _ _ _)))
            go_wp2;go_roundw
            case rel=>
             refine⟨k,s+1,m3+nq,c,rfl,by go_num,by omega,by omega,by omega,p,by rw[J.out];exact putRow_drewN _ _ _ _ _ _ _,?_⟩;show _=_;rw[<-L.out,pi_go ak a b s i k g M X.out (by omega) (by omega),K.out,o.out]
            case measure=>first|(simp[aI];done)|(simp[aI];omega)
          ·have r:¬(j:Int)<b:=by omega
           clear f;have o:Hid (fixUp ak b k h=c):=by
            show _=_;unfold fixUp;rw[Hl B,<-T.out,shiftUp_stop ak b j c (Or.inl E)]
           go_wp2;go_roundw
           case rel=>
            refine⟨k,s+1,m3,c,rfl,by go_num,by omega,by omega,by omega,p,U.out,?_⟩;show _=_;rw[<-L.out,pi_go ak a b s i k g M X.out (by omega) (by omega),K.out,o.out]
           case measure=>first|(simp[aI];done)|(simp[aI];omega)
        ·have C:¬(2:Int)<=(b:Int)-(k:Int):=by omega
         have o:Hid (fixUp ak b k h=h):=by show _=_;unfold fixUp;rw[Hk (by omega)]
         go_wp2;go_roundw
         case rel=>
          refine⟨k,s+1,v,h,rfl,by go_num,by omega,by omega,by omega,z,q.out,?_⟩;show _=_;rw[<-L.out,pi_go ak a b s i k g M X.out (by omega) (by omega),K.out,o.out]
         case measure=>first|(simp[aI];done)|(simp[aI];omega)
    ·have ai:¬(k:Int)<b:=by omega
     have hv:Sort.partialInsertionSort ak d a b=(g,true):=by
      unfold Sort.partialInsertionSort;rw[<-L.out,pi_true ak a b s i g M (by rw[<-hS.out,scanSorted_stop ak g b k (Or.inl ad)];omega)]
     have ae:=aa hv;have aE:((k:Int)==b)=true:=by rw[Iq];omega
     clear hv;go_wp2;go_quiet (first|(go_at_call 152;refine Calls.quiet_of_same (less _ _ _)))
     go_wp2;go_ret;exact⟨by rw[ae.out];rfl,m+nq,by rw[ae.out,J.out];exact putRow_drewN _ _ _ _ _ _ _⟩
  ·have aA:¬(s:Int)<5:=by omega
   have hv:Sort.partialInsertionSort ak d a b=(g,false):=by
    unfold Sort.partialInsertionSort;obtain rfl:s=5:=by omega
    rw[<-L.out,pi_end]
   have ae:=aa hv;have af:=aa Y;clear hv Y;go_wp2;go_ret;exact⟨by rw[ae.out];rfl,n,by rw[ae.out];exact af.out⟩
def DW(blk off cap a b pivot:Nat)(d:Array Nat)(w:World)(hH:Holds en w blk off d)(az:a<=pivot)(aA:pivot<b)(hb:b<=d.size)(hsz:d.size<4611686018427387904):
    Calls Tryz.prog 154 #[.slice (some ⟨blk,off,none⟩) d.size cap,.int .i64 a,.int .i64 b,.int .i64 pivot] w λe w'=>
     e=.returned (.tuple #[.int .i64 (Sort.partition ak d a b pivot).1,.bool (Sort.partition ak d a b pivot).2.1])/\∃n,w'=putRow en (Sort.ahead w n) blk off (Sort.partition ak d a b pivot).2.2:=by
 obtain⟨G,V⟩:∃G:Nat->Nat,∀t,G t=d[t]! :=⟨λt=>d[t]!,λ_=>rfl⟩
 have l:∀t,t<d.size->w.cell? ⟨blk,off+t,none⟩=some (en (G t)):=λt ht=>by rw[V];exact(hH t ht).1
 have s:∀t,t<d.size->w.frozen? ⟨blk,off+t,none⟩=false:=λt ht=>(hH t ht).2;have ah:((w.drewN 1).setCell ⟨blk,off+a,none⟩ (en (G pivot))).setCell ⟨blk,off+pivot,none⟩ (en (G a))=putRow en (Sort.ahead w (0+1)) blk off (Sort.swp d a pivot):=by
  have e:=swap_worldA en w 0 1 blk off d a pivot (by omega) (by omega);rw[ahead_zero,putRow_self _ w blk off d hH]at e
  rw[V,V];exact e
 have aB:a<d.size:=by omega
 have au:pivot<d.size:=by omega
 obtain⟨v',N⟩:=JI (w:=w) (p:=⟨blk,off+a,none⟩) (x:=en (G pivot)) (q:=⟨blk,off+pivot,none⟩) (l pivot au);have M:=aa hH;have ad:=aa ah;clear hH V ah;go_enter Tryz.func154,Tryz.ntmps154;go_wp2;go_region;go_wp2;clear l s N;have e1:((a:Int)+1)=((a+1:Nat):Int):=by omega
 have e2:((b:Int)-1)=((b-1:Nat):Int):=by omega
 rw[e1,e2];clear e1 e2;obtain⟨i,hi⟩:∃i,i=a+1:=⟨_,rfl⟩
 obtain⟨j,hj⟩:∃j,j=b-1:=⟨_,rfl⟩
 obtain⟨c,W⟩:∃c,c=Sort.swp d a pivot:=⟨_,rfl⟩
 rw[<-hi,<-hj];rw[<-W]at ad
 have ai:a<i:=by omega
 have X:i<=j+1:=by omega
 have aj:j<b:=by omega
 have D:c.size=d.size:=by rw[W,size_swp]
 obtain⟨n,ae⟩:∃n,Hid (((w.drewN 1).setCell ⟨blk,off+a,none⟩ (en (G pivot))).setCell ⟨blk,off+pivot,none⟩ (en (G a))=putRow en (Sort.ahead w n) blk off c):=⟨_,ad.out⟩
 have aq:=aa hi;have ar:=aa hj;have Y:=aa W;clear hi hj W ad;obtain⟨G,V⟩:∃G:Nat->Nat,∀t,G t=c[t]! :=⟨λt=>c[t]!,λ_=>rfl⟩
 have k:=aa V;clear V
 go_loopw [10] (λO z=>∃(g m:Nat),O=.int .i64 g/\i<=g/\g<=j+1/\z=putRow en (Sort.ahead w m) blk off c/\
  Hid (scanUp (λx=>ak x c[a]!) c j g=scanUp (λx=>ak x c[a]!) c j i)) (λO _=>j+1-(aI O).toNat)
 case atStart=>exact⟨i,n,rfl,Hm _,X,ae.out,rfl⟩
 case round=>
  obtain⟨g,m,rfl,av,E,F,A⟩:=hrel;have l:∀t,t<d.size->wr.cell? ⟨blk,off+t,none⟩=some (en (G t)):=λt ht=>by
   rw[F,k.out];exact cell?_putRow _ _ _ _ d c (holds_ahead _ _ _ _ _ _ M.out) D t (by omega)
  have s:∀t,t<d.size->wr.frozen? ⟨blk,off+t,none⟩=false:=λt ht=>by
   rw[F,frozen?_putRow];exact((holds_ahead _ _ m _ _ _ M.out) t ht).2
  have B:=aa F;clear F;by_cases hle:g<=j
  ·have P:(g:Int)<=j:=by omega
   cases hl:ak (G g) (G a)with
   |true=>
    go_wp2;go_quiet (first|(go_at_call 152;refine Calls.quiet_of_same (less _ _ _)))
    go_wp2;go_roundw
    case rel=>
     refine⟨g+1,m+nq,by go_num,by omega,by omega,by rw[B.out];exact putRow_drewN _ _ _ _ _ _ _,?_⟩;show _=_;rw[<-A.out];exact(scanUp_go (λx=>ak x c[a]!) c j g hle (by rw[<-k.out,<-k.out];exact hl)).symm
    case measure=>first|(simp[aI];done)|(simp[aI];omega)
   |false=>
    have u:Hid (g=scanUp (λx=>ak x c[a]!) c j i):=(scanUp_end (λx=>ak x c[a]!) c j g (Or.inr (by rw[<-k.out,<-k.out];exact hl))).symm.trans A.out;go_wp2;go_quiet (first|(go_at_call 152;refine Calls.quiet_of_same (less _ _ _)))
    obtain⟨I,J⟩:∃I,Hid (wr.drewN nq=putRow en (Sort.ahead w I) blk off c):=⟨m+nq,by show _=_;rw[B.out];exact putRow_drewN _ _ _ _ _ _ _⟩
    clear l s B A;go_wp2
    go_loopw [11] (λH z=>∃(f m2:Nat),H=.int .i64 f/\f<=j/\g<=f+1/\z=putRow en (Sort.ahead w m2) blk off c/\
     Hid (scanDown (λx=> !ak x c[a]!) c g f=scanDown (λx=> !ak x c[a]!) c g j)) (λH _=>(aI H).toNat)
    case atStart=>exact⟨j,I,rfl,Hm _,E,J.out,rfl⟩
    case round=>
     obtain⟨f,m2,rfl,af,L,h,v⟩:=hrel;have l:∀t,t<d.size->wr.cell? ⟨blk,off+t,none⟩=some (en (G t)):=λt ht=>by
      rw[h,k.out];exact cell?_putRow _ _ _ _ d c (holds_ahead _ _ _ _ _ _ M.out) D t (by omega)
     have s:∀t,t<d.size->wr.frozen? ⟨blk,off+t,none⟩=false:=λt ht=>by
      rw[h,frozen?_putRow];exact((holds_ahead _ _ m2 _ _ _ M.out) t ht).2
     have y:=aa h;clear h;by_cases o:g<=f
     ·have C:(g:Int)<=f:=by omega
      cases Q:ak (G f) (G a)with
      |false=>
       go_wp2;go_quiet (first|(go_at_call 152;refine Calls.quiet_of_same (less _ _ _)))
       go_wp2;go_roundw
       case rel=>
        refine⟨f-1,m2+nq,by congr 1;omega,by omega,by omega,by rw[y.out];exact putRow_drewN _ _ _ _ _ _ _,?_⟩;show _=_;rw[<-v.out];exact(scanDown_go (λx=> !ak x c[a]!) c g f o (by omega) (by rw[<-k.out,<-k.out,Q];rfl)).symm
       case measure=>first|(simp[aI];done)|(simp[aI];omega)
      |true=>
       have r:Hid (f=scanDown (λx=> !ak x c[a]!) c g j):=(scanDown_end (λx=> !ak x c[a]!) c g f (Or.inr (by rw[<-k.out,<-k.out,Q];rfl))).symm.trans v.out;have ac:=part_scans_lt ak a i j c (by omega) u.out r.out o;have S:¬(f:Int)<g:=by omega
       go_wp2;go_quiet (first|(go_at_call 152;refine Calls.quiet_of_same (less _ _ _)))
       go_wp2;go_region;all_goals go_wp2
       obtain⟨dn,Z⟩:∃dn,Sort.swp c g f=dn:=⟨_,rfl⟩
       have aw:dn.size=d.size:=by rw[<-Z,size_swp];exact D
       obtain⟨R,hR⟩:∃R,partLoop ak a (g+1) (f-1) dn=R:=⟨_,rfl⟩
       have hP:Sort.partition ak d a b pivot=(R.1,false,Sort.swp R.2 R.1 a):=by
        rw[part_first_go ak d a b pivot aq.out ar.out Y.out u.out r.out (by omega),Z,hR]
       have al:((wr.drewN (nq+1)).setCell ⟨blk,off+g,none⟩ (en (G f))).setCell ⟨blk,off+f,none⟩ (en (G g))=putRow en (Sort.ahead w (m2+(nq+1))) blk off dn:=by
        rw[y.out,k.out,k.out,<-Z];exact swap_worldA _ w m2 (nq+1) blk off c g f (by omega) (by omega)
       have ax:=aa hP;have ay:=aa hR;have an:=aa al;clear hP hR al Z l s k y aq ar Y u r v;generalize Value.bool (decide (f<g))=aC;generalize Value.bool (ak (G f) (G a))=aD
       go_loopw [10,11] (λO H wr=>∃(i j n:Nat) (c:Array Nat),O=.int .i64 i/\H=.int .i64 j/\a<i/\i<=j+1/\j<b/\c.size=d.size/\wr=putRow en (Sort.ahead w n) blk off c/\
          Hid (partLoop ak a i j c=partLoop ak a (g+1) (f-1) dn)) (λO H _=>(aI H).toNat+1-(aI O).toNat)
       case atStart=>exact⟨g+1,f-1,_,dn,by go_num,by congr 1;omega,by omega,by omega,by omega,aw,an.out,rfl⟩
       case round=>
        clear an D ai X aj E L ac;rename_i i1 j1 _ _;obtain⟨i,j,n,c,rfl,rfl,ai,X,aj,D,ao,hE⟩:=hrel;obtain⟨G,V⟩:∃G:Nat->Nat,∀t,G t=c[t]! :=⟨λt=>c[t]!,λ_=>rfl⟩
        have k:=aa V;have ae:=aa ao;clear V ao;go_wp2
        go_loopw [10] (λO z=>∃(g m:Nat),O=.int .i64 g/\i<=g/\g<=j+1/\z=putRow en (Sort.ahead w m) blk off c/\
         Hid (scanUp (λx=>ak x c[a]!) c j g=scanUp (λx=>ak x c[a]!) c j i)) (λO _=>j+1-(aI O).toNat)
        case atStart=>exact⟨i,n,rfl,Hm _,X,ae.out,rfl⟩
        case round=>
         obtain⟨g,m,rfl,av,E,F,A⟩:=hrel;have l:∀t,t<d.size->wr.cell? ⟨blk,off+t,none⟩=some (en (G t)):=λt ht=>by
          rw[F,k.out];exact cell?_putRow _ _ _ _ d c (holds_ahead _ _ _ _ _ _ M.out) D t (by omega)
         have s:∀t,t<d.size->wr.frozen? ⟨blk,off+t,none⟩=false:=λt ht=>by
          rw[F,frozen?_putRow];exact((holds_ahead _ _ m _ _ _ M.out) t ht).2
         have B:=aa F;clear F;by_cases hle:g<=j
         ·have P:(g:Int)<=j:=by omega
          cases hl:ak (G g) (G a)with
          |true=>
           go_wp2;go_quiet (first|(go_at_call 152;refine Calls.quiet_of_same (less _ _ _)))
           go_wp2;go_roundw
           case rel=>
            refine⟨g+1,m+nq,by go_num,by omega,by omega,by rw[B.out];exact putRow_drewN _ _ _ _ _ _ _,?_⟩;show _=_;rw[<-A.out];exact(scanUp_go (λx=>ak x c[a]!) c j g hle (by rw[<-k.out,<-k.out];exact hl)).symm
           case measure=>first|(simp[aI];done)|(simp[aI];omega)
          |false=>
           have u:Hid (g=scanUp (λx=>ak x c[a]!) c j i):=(scanUp_end (λx=>ak x c[a]!) c j g (Or.inr (by rw[<-k.out,<-k.out];exact hl))).symm.trans A.out;go_wp2;go_quiet (first|(go_at_call 152;refine Calls.quiet_of_same (less _ _ _)))
           obtain⟨I,J⟩:∃I,Hid (wr.drewN nq=putRow en (Sort.ahead w I) blk off c):=⟨m+nq,by show _=_;rw[B.out];exact putRow_drewN _ _ _ _ _ _ _⟩
           clear l s B A;go_wp2
           go_loopw [11] (λH z=>∃(f m2:Nat),H=.int .i64 f/\f<=j/\g<=f+1/\z=putRow en (Sort.ahead w m2) blk off c/\
              Hid (scanDown (λx=> !ak x c[a]!) c g f=scanDown (λx=> !ak x c[a]!) c g j)) (λH _=>(aI H).toNat)
           case atStart=>exact⟨j,I,rfl,Hm _,E,J.out,rfl⟩
           case round=>
            obtain⟨f,m2,rfl,af,L,h,v⟩:=hrel;have l:∀t,t<d.size->wr.cell? ⟨blk,off+t,none⟩=some (en (G t)):=λt ht=>by
             rw[h,k.out];exact cell?_putRow _ _ _ _ d c (holds_ahead _ _ _ _ _ _ M.out) D t (by omega)
            have s:∀t,t<d.size->wr.frozen? ⟨blk,off+t,none⟩=false:=λt ht=>by
             rw[h,frozen?_putRow];exact((holds_ahead _ _ m2 _ _ _ M.out) t ht).2
            have y:=aa h;clear h;by_cases o:g<=f
            ·have C:(g:Int)<=f:=by omega
             cases Q:ak (G f) (G a)with
             |false=>
              go_wp2;go_quiet (first|(go_at_call 152;refine Calls.quiet_of_same (less _ _ _)))
              go_wp2;go_roundw
              case rel=>
               refine⟨f-1,m2+nq,by congr 1;omega,by omega,by omega,by rw[y.out];exact putRow_drewN _ _ _ _ _ _ _,?_⟩;show _=_;rw[<-v.out];exact(scanDown_go (λx=> !ak x c[a]!) c g f o (by omega) (by rw[<-k.out,<-k.out,Q];rfl)).symm
              case measure=>first|(simp[aI];done)|(simp[aI];omega)
             |true=>
              have r:Hid (f=scanDown (λx=> !ak x c[a]!) c g j):=(scanDown_end (λx=> !ak x c[a]!) c g f (Or.inr (by rw[<-k.out,<-k.out,Q];rfl))).symm.trans v.out;have ac:=part_scans_lt ak a i j c (by omega) u.out r.out o;have S:¬(f:Int)<g:=by omega
              go_wp2;go_quiet (first|(go_at_call 152;refine Calls.quiet_of_same (less _ _ _)))
              go_wp2;go_region;all_goals go_wp2
              go_roundw
              case rel=>
               refine⟨g+1,f-1,m2+(nq+1),Sort.swp c g f,by go_num,by congr 1;omega,by omega,by omega,by omega,by rw[size_swp];exact D,?_,?_⟩
               ·rw[y.out,k.out,k.out];exact swap_worldA _ w m2 (nq+1) blk off c g f (by omega) (by omega)
               ·show _=_;rw[<-hE.out];exact(part_go ak a i j c u.out r.out (by omega)).symm
              case measure=>first|(simp[aI];done)|(simp[aI];omega)
            ·have C:¬(g:Int)<=f:=by omega
             have r:Hid (f=scanDown (λx=> !ak x c[a]!) c g j):=(scanDown_end (λx=> !ak x c[a]!) c g f (Or.inl o)).symm.trans v.out;have S:(f:Int)<g:=by omega
             have ag:f<d.size:=by omega
             have K:a<d.size:=by omega
             have T:Sort.partition ak d a b pivot=(f,false,Sort.swp c f a):=by
              rw[ax.out,<-ay.out,<-hE.out,part_break ak a i j c u.out r.out (by omega)]
             have U:=aa T;clear T;go_wp2;go_quiet (first|(go_at_call 152;refine Calls.quiet_of_same (less _ _ _)))
             obtain⟨v',N⟩:=JI (w:=wr.drewN (nq+1)) (p:=⟨blk,off+f,none⟩) (x:=en (G a)) (q:=⟨blk,off+a,none⟩) (l a K);go_wp2;go_region;go_wp2;go_ret2;refine⟨by rw[U.out];rfl,m2+(nq+1),?_⟩;rw[U.out,y.out,k.out,k.out];exact swap_worldA _ w m2 (nq+1) blk off c f a (by omega) (by omega)
         ·have P:¬(g:Int)<=j:=by omega
          have u:Hid (g=scanUp (λx=>ak x c[a]!) c j i):=(scanUp_end (λx=>ak x c[a]!) c j g (Or.inl hle)).symm.trans A.out;go_wp2;go_quiet (first|(go_at_call 152;refine Calls.quiet_of_same (less _ _ _)))
          obtain⟨I,J⟩:∃I,Hid (wr.drewN nq=putRow en (Sort.ahead w I) blk off c):=⟨m+nq,by show _=_;rw[B.out];exact putRow_drewN _ _ _ _ _ _ _⟩
          clear l s B A;go_wp2
          go_loopw [11] (λH z=>∃(f m2:Nat),H=.int .i64 f/\f<=j/\g<=f+1/\z=putRow en (Sort.ahead w m2) blk off c/\
             Hid (scanDown (λx=> !ak x c[a]!) c g f=scanDown (λx=> !ak x c[a]!) c g j)) (λH _=>(aI H).toNat)
          case atStart=>exact⟨j,I,rfl,Hm _,E,J.out,rfl⟩
          case round=>
           obtain⟨f,m2,rfl,af,L,h,v⟩:=hrel;have l:∀t,t<d.size->wr.cell? ⟨blk,off+t,none⟩=some (en (G t)):=λt ht=>by
            rw[h,k.out];exact cell?_putRow _ _ _ _ d c (holds_ahead _ _ _ _ _ _ M.out) D t (by omega)
           have s:∀t,t<d.size->wr.frozen? ⟨blk,off+t,none⟩=false:=λt ht=>by
            rw[h,frozen?_putRow];exact((holds_ahead _ _ m2 _ _ _ M.out) t ht).2
           have y:=aa h;clear h;by_cases o:g<=f
           ·exfalso;omega
           ·have C:¬(g:Int)<=f:=by omega
            have r:Hid (f=scanDown (λx=> !ak x c[a]!) c g j):=(scanDown_end (λx=> !ak x c[a]!) c g f (Or.inl o)).symm.trans v.out;have S:(f:Int)<g:=by omega
            have ag:f<d.size:=by omega
            have K:a<d.size:=by omega
            have T:Sort.partition ak d a b pivot=(f,false,Sort.swp c f a):=by
             rw[ax.out,<-ay.out,<-hE.out,part_break ak a i j c u.out r.out (by omega)]
            have U:=aa T;clear T;go_wp2;go_quiet (first|(go_at_call 152;refine Calls.quiet_of_same (less _ _ _)))
            obtain⟨v',N⟩:=JI (w:=wr.drewN (nq+1)) (p:=⟨blk,off+f,none⟩) (x:=en (G a)) (q:=⟨blk,off+a,none⟩) (l a K);go_wp2;go_region;go_wp2;go_ret2;refine⟨by rw[U.out];rfl,m2+(nq+1),?_⟩;rw[U.out,y.out,k.out,k.out];exact swap_worldA _ w m2 (nq+1) blk off c f a (by omega) (by omega)
     ·have C:¬(g:Int)<=f:=by omega
      have r:Hid (f=scanDown (λx=> !ak x c[a]!) c g j):=(scanDown_end (λx=> !ak x c[a]!) c g f (Or.inl o)).symm.trans v.out;have S:(f:Int)<g:=by omega
      have ag:f<d.size:=by omega
      have K:a<d.size:=by omega
      have T:Sort.partition ak d a b pivot=(f,true,Sort.swp c f a):=part_first_break ak d a b pivot aq.out ar.out Y.out u.out r.out (by omega);have U:=aa T;clear T;go_wp2;go_quiet (first|(go_at_call 152;refine Calls.quiet_of_same (less _ _ _)))
      obtain⟨v',N⟩:=JI (w:=wr.drewN (nq+1)) (p:=⟨blk,off+f,none⟩) (x:=en (G a)) (q:=⟨blk,off+a,none⟩) (l a K);go_wp2;go_region;go_wp2;go_ret2;refine⟨by rw[U.out];rfl,m2+(nq+1),?_⟩;rw[U.out,y.out,k.out,k.out];exact swap_worldA _ w m2 (nq+1) blk off c f a (by omega) (by omega)
  ·have P:¬(g:Int)<=j:=by omega
   have u:Hid (g=scanUp (λx=>ak x c[a]!) c j i):=(scanUp_end (λx=>ak x c[a]!) c j g (Or.inl hle)).symm.trans A.out;go_wp2;go_quiet (first|(go_at_call 152;refine Calls.quiet_of_same (less _ _ _)))
   obtain⟨I,J⟩:∃I,Hid (wr.drewN nq=putRow en (Sort.ahead w I) blk off c):=⟨m+nq,by show _=_;rw[B.out];exact putRow_drewN _ _ _ _ _ _ _⟩
   clear l s B A;go_wp2
   go_loopw [11] (λH z=>∃(f m2:Nat),H=.int .i64 f/\f<=j/\g<=f+1/\z=putRow en (Sort.ahead w m2) blk off c/\
      Hid (scanDown (λx=> !ak x c[a]!) c g f=scanDown (λx=> !ak x c[a]!) c g j)) (λH _=>(aI H).toNat)
   case atStart=>exact⟨j,I,rfl,Hm _,E,J.out,rfl⟩
   case round=>
    obtain⟨f,m2,rfl,af,L,h,v⟩:=hrel;have l:∀t,t<d.size->wr.cell? ⟨blk,off+t,none⟩=some (en (G t)):=λt ht=>by
     rw[h,k.out];exact cell?_putRow _ _ _ _ d c (holds_ahead _ _ _ _ _ _ M.out) D t (by omega)
    have s:∀t,t<d.size->wr.frozen? ⟨blk,off+t,none⟩=false:=λt ht=>by
     rw[h,frozen?_putRow];exact((holds_ahead _ _ m2 _ _ _ M.out) t ht).2
    have y:=aa h;clear h;by_cases o:g<=f
    ·exfalso;omega
    ·have C:¬(g:Int)<=f:=by omega
     have r:Hid (f=scanDown (λx=> !ak x c[a]!) c g j):=(scanDown_end (λx=> !ak x c[a]!) c g f (Or.inl o)).symm.trans v.out;have S:(f:Int)<g:=by omega
     have ag:f<d.size:=by omega
     have K:a<d.size:=by omega
     have T:Sort.partition ak d a b pivot=(f,true,Sort.swp c f a):=part_first_break ak d a b pivot aq.out ar.out Y.out u.out r.out (by omega);have U:=aa T;clear T;go_wp2;go_quiet (first|(go_at_call 152;refine Calls.quiet_of_same (less _ _ _)))
     obtain⟨v',N⟩:=JI (w:=wr.drewN (nq+1)) (p:=⟨blk,off+f,none⟩) (x:=en (G a)) (q:=⟨blk,off+a,none⟩) (l a K);go_wp2;go_region;go_wp2;go_ret2;refine⟨by rw[U.out];rfl,m2+(nq+1),?_⟩;rw[U.out,y.out,k.out,k.out];exact swap_worldA _ w m2 (nq+1) blk off c f a (by omega) (by omega)
def zk(blk off cap a b pivot:Nat)(d:Array Nat)(w:World)(N:Holds en w blk off d)(af:a<=pivot)(ag:pivot<b)(hb:b<=d.size)(hsz:d.size<4611686018427387904):
    Calls Tryz.prog 153 #[.slice (some ⟨blk,off,none⟩) d.size cap,.int .i64 a,.int .i64 b,.int .i64 pivot] w λe w'=>
     e=.returned (.int .i64 (Sort.partitionEqual ak d a b pivot).1)/\∃n,w'=putRow en (Sort.ahead w n) blk off (Sort.partitionEqual ak d a b pivot).2:=by
 obtain⟨G,H⟩:∃G:Nat->Nat,∀t,G t=d[t]! :=⟨λt=>d[t]!,λ_=>rfl⟩
 have l:∀t,t<d.size->w.cell? ⟨blk,off+t,none⟩=some (en (G t)):=λt ht=>by rw[H];exact(N t ht).1
 have r:∀t,t<d.size->w.frozen? ⟨blk,off+t,none⟩=false:=λt ht=>(N t ht).2;have O:((w.drewN 1).setCell ⟨blk,off+a,none⟩ (en (G pivot))).setCell ⟨blk,off+pivot,none⟩ (en (G a))=putRow en (Sort.ahead w (0+1)) blk off (Sort.swp d a pivot):=by
  have e:=swap_worldA en w 0 1 blk off d a pivot (by omega) (by omega);rw[ahead_zero,putRow_self _ w blk off d N]at e
  rw[H,H];exact e
 have ah:a<d.size:=by omega
 have X:pivot<d.size:=by omega
 obtain⟨v',Y⟩:=JI (w:=w) (p:=⟨blk,off+a,none⟩) (x:=en (G pivot)) (q:=⟨blk,off+pivot,none⟩) (l pivot X);have M:=aa N;have o:=aa H;have P:=aa O;clear N H O;go_enter Tryz.func153,Tryz.ntmps153;go_wp2;go_region;go_wp2;clear l r o Y
 go_loopw [9,10] (λJ u wr=>∃(i j n:Nat) (c:Array Nat),J=.int .i64 i/\u=.int .i64 j/\a<i/\i<=j+1/\j<b/\c.size=d.size/\wr=putRow en (Sort.ahead w n) blk off c/\
  Hid (partEqLoop ak a i j c=partEqLoop ak a (a+1) (b-1) (Sort.swp d a pivot))) (λJ u _=>(aI u).toNat+1-(aI J).toNat)
 case atStart=>exact⟨a+1,b-1,0+1,Sort.swp d a pivot,by go_num,by congr 1;omega,by omega,by omega,by omega,size_swp _ _ _,P.out,rfl⟩
 case round=>
  clear P;obtain⟨i,j,n,c,rfl,rfl,ai,Z,aj,E,Q,hE⟩:=hrel;obtain⟨G,H⟩:∃G:Nat->Nat,∀t,G t=c[t]! :=⟨λt=>c[t]!,λ_=>rfl⟩
  have o:=aa H;have ac:=aa Q;clear H Q;go_wp2
  go_loopw [9] (λJ v=>∃(f m:Nat),J=.int .i64 f/\i<=f/\f<=j+1/\v=putRow en (Sort.ahead w m) blk off c/\
   Hid (scanUp (λx=> !ak c[a]! x) c j f=scanUp (λx=> !ak c[a]! x) c j i)) (λJ _=>j+1-(aI J).toNat)
  case atStart=>exact⟨i,n,rfl,Hm _,Z,ac.out,rfl⟩
  case round=>
   obtain⟨f,m,rfl,al,I,F,y⟩:=hrel;have l:∀t,t<d.size->wr.cell? ⟨blk,off+t,none⟩=some (en (G t)):=λt ht=>by
    rw[F,o.out];exact cell?_putRow _ _ _ _ d c (holds_ahead _ _ _ _ _ _ M.out) E t (by omega)
   have r:∀t,t<d.size->wr.frozen? ⟨blk,off+t,none⟩=false:=λt ht=>by
    rw[F,frozen?_putRow];exact((holds_ahead _ _ m _ _ _ M.out) t ht).2
   have z:=aa F;clear F;by_cases hle:f<=j
   ·have R:(f:Int)<=j:=by omega
    cases hl:ak (G a) (G f)with
    |false=>
     go_wp2;go_quiet (first|(go_at_call 152;refine Calls.quiet_of_same (less _ _ _)))
     go_wp2;go_roundw
     case rel=>
      refine⟨f+1,m+nq,by go_num,by omega,by omega,by rw[z.out];exact putRow_drewN _ _ _ _ _ _ _,?_⟩;show _=_;rw[<-y.out];exact(scanUp_go (λx=> !ak c[a]! x) c j f hle (by rw[<-o.out,<-o.out,hl];rfl)).symm
     case measure=>first|(simp[aI];done)|(simp[aI];omega)
    |true=>
     have A:Hid (f=scanUp (λx=> !ak c[a]! x) c j i):=(scanUp_end (λx=> !ak c[a]! x) c j f (Or.inr (by rw[<-o.out,<-o.out,hl];rfl))).symm.trans y.out;go_wp2;go_quiet (first|(go_at_call 152;refine Calls.quiet_of_same (less _ _ _)))
     obtain⟨K,L⟩:∃K,Hid (wr.drewN nq=putRow en (Sort.ahead w K) blk off c):=⟨m+nq,by show _=_;rw[z.out];exact putRow_drewN _ _ _ _ _ _ _⟩
     clear l r z y;go_wp2
     go_loopw [10] (λu v=>∃(g m2:Nat),u=.int .i64 g/\g<=j/\f<=g+1/\v=putRow en (Sort.ahead w m2) blk off c/\
      Hid (scanDown (λx=>ak c[a]! x) c f g=scanDown (λx=>ak c[a]! x) c f j)) (λu _=>(aI u).toNat)
     case atStart=>exact⟨j,K,rfl,Hm _,I,L.out,rfl⟩
     case round=>
      obtain⟨g,m2,rfl,ad,S,h,B⟩:=hrel;have l:∀t,t<d.size->wr.cell? ⟨blk,off+t,none⟩=some (en (G t)):=λt ht=>by
       rw[h,o.out];exact cell?_putRow _ _ _ _ d c (holds_ahead _ _ _ _ _ _ M.out) E t (by omega)
      have r:∀t,t<d.size->wr.frozen? ⟨blk,off+t,none⟩=false:=λt ht=>by
       rw[h,frozen?_putRow];exact((holds_ahead _ _ m2 _ _ _ M.out) t ht).2
      have C:=aa h;clear h;by_cases k:f<=g
      ·have D:(f:Int)<=g:=by omega
       cases T:ak (G a) (G g)with
       |true=>
        go_wp2;go_quiet (first|(go_at_call 152;refine Calls.quiet_of_same (less _ _ _)))
        go_wp2;go_roundw
        case rel=>
         refine⟨g-1,m2+nq,by congr 1;omega,by omega,by omega,by rw[C.out];exact putRow_drewN _ _ _ _ _ _ _,?_⟩;show _=_;rw[<-B.out];exact(scanDown_go (λx=>ak c[a]! x) c f g k (by omega) (by rw[<-o.out,<-o.out];exact T)).symm
        case measure=>first|(simp[aI];done)|(simp[aI];omega)
       |false=>
        have s:Hid (g=scanDown (λx=>ak c[a]! x) c f j):=(scanDown_end (λx=>ak c[a]! x) c f g (Or.inr (by rw[<-o.out,<-o.out];exact T))).symm.trans B.out;have ae:=scans_lt ak a i j c (by omega) A.out s.out k;have U:¬(g:Int)<f:=by omega
        go_wp2;go_quiet (first|(go_at_call 152;refine Calls.quiet_of_same (less _ _ _)))
        go_wp2;go_region;all_goals go_wp2
        go_roundw
        case rel=>
         refine⟨f+1,g-1,m2+(nq+1),Sort.swp c f g,by go_num,by congr 1;omega,by omega,by omega,by omega,by rw[size_swp];exact E,?_,?_⟩
         ·rw[C.out,o.out,o.out];exact swap_worldA _ w m2 (nq+1) blk off c f g (by omega) (by omega)
         ·show _=_;rw[<-hE.out];exact(partEq_go ak a i j c A.out s.out (by omega)).symm
        case measure=>first|(simp[aI];done)|(simp[aI];omega)
      ·have D:¬(f:Int)<=g:=by omega
       have s:Hid (g=scanDown (λx=>ak c[a]! x) c f j):=(scanDown_end (λx=>ak c[a]! x) c f g (Or.inl k)).symm.trans B.out;have U:(g:Int)<f:=by omega
       have V:Sort.partitionEqual ak d a b pivot=(f,c):=by
        unfold Sort.partitionEqual;rw[<-hE.out];exact partEq_break ak a i j c A.out s.out (by omega)
       have W:=aa V;clear V;go_wp2;go_quiet (first|(go_at_call 152;refine Calls.quiet_of_same (less _ _ _)))
       go_wp2;go_ret;exact⟨by rw[W.out];rfl,m2+nq,by rw[W.out,C.out];exact putRow_drewN _ _ _ _ _ _ _⟩
   ·have R:¬(f:Int)<=j:=by omega
    have A:Hid (f=scanUp (λx=> !ak c[a]! x) c j i):=(scanUp_end (λx=> !ak c[a]! x) c j f (Or.inl hle)).symm.trans y.out;go_wp2;go_quiet (first|(go_at_call 152;refine Calls.quiet_of_same (less _ _ _)))
    obtain⟨K,L⟩:∃K,Hid (wr.drewN nq=putRow en (Sort.ahead w K) blk off c):=⟨m+nq,by show _=_;rw[z.out];exact putRow_drewN _ _ _ _ _ _ _⟩
    clear l r z y;go_wp2
    go_loopw [10] (λu v=>∃(g m2:Nat),u=.int .i64 g/\g<=j/\f<=g+1/\v=putRow en (Sort.ahead w m2) blk off c/\
      Hid (scanDown (λx=>ak c[a]! x) c f g=scanDown (λx=>ak c[a]! x) c f j)) (λu _=>(aI u).toNat)
    case atStart=>exact⟨j,K,rfl,Hm _,I,L.out,rfl⟩
    case round=>
     obtain⟨g,m2,rfl,ad,S,h,B⟩:=hrel;have l:∀t,t<d.size->wr.cell? ⟨blk,off+t,none⟩=some (en (G t)):=λt ht=>by
      rw[h,o.out];exact cell?_putRow _ _ _ _ d c (holds_ahead _ _ _ _ _ _ M.out) E t (by omega)
     have r:∀t,t<d.size->wr.frozen? ⟨blk,off+t,none⟩=false:=λt ht=>by
      rw[h,frozen?_putRow];exact((holds_ahead _ _ m2 _ _ _ M.out) t ht).2
     have C:=aa h;clear h;by_cases k:f<=g
     ·exfalso;omega
     ·have D:¬(f:Int)<=g:=by omega
      have s:Hid (g=scanDown (λx=>ak c[a]! x) c f j):=(scanDown_end (λx=>ak c[a]! x) c f g (Or.inl k)).symm.trans B.out;have U:(g:Int)<f:=by omega
      have V:Sort.partitionEqual ak d a b pivot=(f,c):=by
       unfold Sort.partitionEqual;rw[<-hE.out];exact partEq_break ak a i j c A.out s.out (by omega)
      have W:=aa V;clear V;go_wp2;go_quiet (first|(go_at_call 152;refine Calls.quiet_of_same (less _ _ _)))
      go_wp2;go_ret;exact⟨by rw[W.out];rfl,m2+nq,by rw[W.out,C.out];exact putRow_drewN _ _ _ _ _ _ _⟩
def FG(rb ro X:Nat)(g:X<18446744073709551616)(w:World)(j:w.cell? ⟨rb,ro,none⟩=some (.int .u64 X))(hf:w.frozen? ⟨rb,ro,none⟩=false):
    Calls Tryz.prog 161 #[.pointer (some ⟨rb,ro,none⟩)] w λe w'=>e=.returned (.int .u64 (xorNextN X:Nat))/\w'=(w.setCell ⟨rb,ro,none⟩ (.int .u64 (xorNextN X:Nat))).drewN 3:=by
 obtain⟨Y,a⟩:∃Y:Nat,Y=X^^^(X*8192%18446744073709551616):=⟨_,rfl⟩
 obtain⟨Z,b⟩:∃Z:Nat,Z=Y^^^(Y/128):=⟨_,rfl⟩
 obtain⟨V,c⟩:∃V:Nat,V=Z^^^(Z*131072%18446744073709551616):=⟨_,rfl⟩
 have h:Y<18446744073709551616:=by rw[a];exact J0 (n:=64) (by omega) (by omega)
 have i:Z<18446744073709551616:=by rw[b];exact J0 (n:=64) (by omega) (by omega)
 have s1:bits .xor .u64 (X:Int) (IntKind.u64.wrap ((X:Int)*8192))=(Y:Int):=by
  have e:IntKind.u64.wrap ((X:Int)*8192)=((X*8192%18446744073709551616:Nat):Int):=by rw[HO];omega
  rw[e,K2 _ _ g (by omega),a]
 have s2:bits .xor .u64 (Y:Int) ((Y:Int)/128)=(Z:Int):=by
  have e:((Y:Int)/128)=((Y/128:Nat):Int):=by omega
  rw[e,K2 _ _ h (by omega),b]
 have s3:bits .xor .u64 (Z:Int) (IntKind.u64.wrap ((Z:Int)*131072))=(V:Int):=by
  have e:IntKind.u64.wrap ((Z:Int)*131072)=((Z*131072%18446744073709551616:Nat):Int):=by rw[HO];omega
  rw[e,K2 _ _ i (by omega),c]
 have d:xorNextN X=V:=by unfold xorNextN;simp only[];rw[<-a,<-b,<-c]
 rw[d];clear a b c d;have once:∀v f,(w.setCell ⟨rb,ro,none⟩ v).setCell ⟨rb,ro,none⟩ f=w.setCell ⟨rb,ro,none⟩ f:=setCell_setCell w rb ro;go_enter Tryz.func161,Tryz.ntmps161;go_wp2;go_region;all_goals go_wp2
 all_goals go_region
 all_goals go_wp2
 all_goals go_region
 all_goals go_wp2
 go_ret;exact⟨rfl,rfl⟩
def FH(n:Nat)(d:n<4611686018427387904)(w:World):
    Calls Tryz.prog 160 #[.int .i64 n] w λe w'=>e=.returned (.int .u64 ((1<<<bitsLen n:Nat):Int))/\w'=w:=by
 have a:=Tryz.bits_Len (n:Int) w (by omega) (by omega);rw[HZ,bitLen_eq _ (by omega)]at a
 have b:bitsLen n<=62:=(bitsLen_le_iff n 62).2 (by omega);have hp:IntKind.u64.wrap ((2:Int)^bitsLen n)=((1<<<bitsLen n:Nat):Int):=by exact wrap_two_pow (bitsLen n) b
 have c:=aa hp;clear hp;go_enter Tryz.func160,Tryz.ntmps160;go_wp2_with(go_at_call 128;refine a.mono ?_;rintro e w' ⟨rfl,rfl⟩);go_ret;refine⟨?_,rfl⟩;rw[<-c.out];rfl
def xJ(blk off cap a L:Nat)(d:Array Nat)(w:World)(y:Holds en w blk off d)(b:blk<w.heap.size)(hb:a+L<=d.size)(hsz:d.size<4611686018427387904)(V:8<=L):
    Calls Tryz.prog 148 #[.slice (some ⟨blk,off,none⟩) d.size cap,.int .i64 a,.int .i64 ((a+L:Nat):Int)] w λe w'=>
     e=.returned (.tuple #[])/\At en w blk off (breakPatterns d a (a+L)) w':=by
 rw[breakPatterns_eq d a L V];obtain⟨M,q⟩:∃M:Nat,M=1<<<bitsLen L:=⟨_,rfl⟩
 have W:1<=M:=by rw[q,Nat.one_shiftLeft];exact KN _
 have X:M<=2*L:=by rw[q,Nat.one_shiftLeft];exact two_pow_bitsLen_le (by omega)
 have g:=λw=>FH L (by omega) w;rw[<-q]at g ⊢
 have m:=aa g;clear q g;have o:∀T,w.alloc (Obj.cells #[.int .u64 (L:Int)] T)=grow (putRow en (Sort.ahead w 0) blk off d) #[Obj.cells #[.int .u64 ((UInt64.ofNat L).toNat:Int)] T]:=λT=>by
  have e:(UInt64.ofNat L).toNat=L:=by simp;omega
  rw[ahead_zero,putRow_self _ _ _ _ _ y,alloc_eq_grow,e]
 have N:=aa y;have p:=aa o;have z:(a:Int)+(L:Int)-(a:Int)=(L:Int):=by omega
 clear y o;go_enter Tryz.func148,Tryz.ntmps148;go_wp2_with(go_at_call 160;(try rw[z]);refine(m.out _).mono ?_;rintro e w' ⟨rfl,rfl⟩);clear m
 go_loopw [9] (λA wr=>∃(t n:Nat) (r:UInt64) (c:Array Nat) (T:TypeId),A=.int .i64 ((a+L/4*2-1+t:Nat):Int)/\t<=3/\c.size=d.size/\
  wr=grow (putRow en (Sort.ahead w n) blk off c) #[Obj.cells #[.int .u64 (r.toNat:Int)] T]/\
  Hid (bpRest a L M (a+L/4*2-1) (3-t) t (r,c)=bpRest a L M (a+L/4*2-1) 3 0 (UInt64.ofNat L,d))) (λA _=>a+L/4*2+3-(aI A).toNat)
 case atStart=>exact⟨0,0,UInt64.ofNat L,d,_,by congr 1;omega,by omega,rfl,p.out _,rfl⟩
 case round=>
  clear p;obtain⟨t,n,r,c,T,rfl,ht,h,hw,B⟩:=hrel;obtain⟨R,s⟩:∃R:Nat,R=r.toNat:=⟨_,rfl⟩
  have P:R<18446744073709551616:=by rw[s];exact r.toNat_lt
  obtain⟨R',f⟩:∃R':Nat,R'=xorNextN R:=⟨_,rfl⟩
  have C:R'<18446744073709551616:=by rw[f];exact xorNextN_lt R P
  obtain⟨O,u⟩:∃O:Nat,O=R'&&&(M-1):=⟨_,rfl⟩
  have lO:O<=M-1:=by rw[u];exact Nat.and_le_right
  have Q:bits .and .u64 (R':Int) ((M:Int)-1)=(O:Int):=by
   have e:((M:Int)-1)=((M-1:Nat):Int):=by omega
   rw[e,JY _ _ C (by omega),u]
  have hz:(putRow en (Sort.ahead w n) blk off c).heap.size=w.heap.size:=by simp
  obtain⟨G,D⟩:∃G:Nat->Nat,∀x,G x=c[x]! :=⟨λx=>c[x]!,λ_=>rfl⟩
  have Y:∀x,x<d.size->wr.cell? ⟨blk,off+x,none⟩=some (en (G x)):=λx S=>by
   rw[hw,cell?_grow _ _ _ (by rw[hz];exact b),D];exact cell?_putRow _ _ _ _ d c (holds_ahead _ _ _ _ _ _ N.out) h x (by omega)
  have Z:∀x,x<d.size->wr.frozen? ⟨blk,off+x,none⟩=false:=λx S=>by
   rw[hw,frozen?_grow _ _ _ (by rw[hz];exact b),frozen?_putRow];exact((holds_ahead _ _ n _ _ _ N.out) x S).2
  have E:wr.cell? ⟨w.heap.size,0,none⟩=some (.int .u64 (R:Int)):=by rw[hw,s,<-hz];exact grow_one_cell _ _ _
  have F:wr.frozen? ⟨w.heap.size,0,none⟩=false:=by rw[hw,<-hz];exact grow_one_frozen _ _ _
  have i:=FG w.heap.size 0 R P wr E F;rw[<-f]at i
  have v:Hid (R'=(xorNext r).toNat/\O=(xorNext r).toNat&&&(M-1)):=by
   have e:R'=(xorNext r).toNat:=by rw[f,s,xorNext_toNat]
   exact⟨e,by rw[u,e]⟩
  have H:=aa i;have I:=aa hw;have U:=aa D;clear hw D s f u i;go_wp2_with(go_at_call 161;refine H.out.mono ?_;rintro e w' ⟨rfl,rfl⟩)
  ·have J:L<=O:=by omega
   obtain⟨po,j⟩:∃po,O-L=po:=⟨_,rfl⟩
   have k:Hid ((if(xorNext r).toNat&&&(M-1)≥L then((xorNext r).toNat&&&(M-1))-L else(xorNext r).toNat&&&(M-1))=po):=by
    show _=_;rw[<-v.out.2,Hl (by omega),j]
   have K:(O:Int)-(L:Int)=(po:Int):=by omega
   simp only[K];by_cases l:a+L/4*2-1+t=a+po;all_goals
    go_region;all_goals go_wp2
    go_roundw
    case rel=>
     refine⟨t+1,n+4,xorNext r,Sort.swp c (a+L/4*2-1+t) (a+po),T,by first|rfl|(congr 1<;>omega),by omega,by rw[size_swp];exact h,?_,?_⟩
     ·(try rw[l])
      rw[I.out,v.out.1];simp only[U.out];exact step_world en w n 4 blk off c _ _ b (by omega) (by omega) _ _ _
     ·show _=_;rw[<-B.out,bp_step a L M _ t r c po (by omega) k.out]
    case measure=>first|(simp[aI];done)|(simp[aI];omega)
  ·have J:¬L<=O:=by omega
   obtain⟨po,j⟩:∃po,po=O:=⟨_,rfl⟩
   subst j;have k:Hid ((if(xorNext r).toNat&&&(M-1)≥L then((xorNext r).toNat&&&(M-1))-L else(xorNext r).toNat&&&(M-1))=po):=by
    show _=_;rw[<-v.out.2,Hk (by omega)]
   by_cases l:a+L/4*2-1+t=a+po;all_goals
    go_region;all_goals go_wp2
    go_roundw
    case rel=>
     refine⟨t+1,n+4,xorNext r,Sort.swp c (a+L/4*2-1+t) (a+po),T,by first|rfl|(congr 1<;>omega),by omega,by rw[size_swp];exact h,?_,?_⟩
     ·(try rw[l])
      rw[I.out,v.out.1];simp only[U.out];exact step_world en w n 4 blk off c _ _ b (by omega) (by omega) _ _ _
     ·show _=_;rw[<-B.out,bp_step a L M _ t r c po (by omega) k.out]
    case measure=>first|(simp[aI];done)|(simp[aI];omega)
  ·obtain rfl:t=3:=by omega
   go_end0;exact⟨rfl,n,_,by rw[<-B.out,I.out];rfl⟩
def Bn(blk off cap a b:Nat)(d:Array Nat)(w:World)(f:Holds en w blk off d)(c:blk<w.heap.size)(j:a<=b)(k:b<=d.size)(hsz:d.size<4611686018427387904):
    Calls Tryz.prog 148 #[.slice (some ⟨blk,off,none⟩) d.size cap,.int .i64 a,.int .i64 b] w λe w'=>
     e=.returned (.tuple #[])/\Rw w blk off (breakPatterns d a b) w':=by
 obtain⟨L,rfl⟩:∃L,b=a+L:=⟨b-a,by omega⟩
 by_cases i:8<=L
 ·exact(xJ blk off cap a L d w f c k hsz i).mono λe w' h=>⟨h.1,Rw.DT c h.2⟩
 ·have l:breakPatterns d a (a+L)=d:=by unfold breakPatterns;simp only[Kb];rw[Hk i]
  rw[l];have g:=aa (Rw.refl f c);clear f;go_enter Tryz.func148,Tryz.ntmps148;go_wp2;go_end0;exact⟨rfl,g.out⟩
structure Bo (dk:Array Nat) (a b lim:Nat) (wb wp:Bool) (D1 D2 D3:Array Nat) (L C1 PV:Nat) (C2 HT:Hint) (dn:Bool):Prop where
 FI:wb=false->D1=breakPatterns dk a b/\L=lim-1
 FJ:wb=true->D1=dk/\L=lim
 JJK:L<=lim
 FK:choosePivot ak D1 a b=(C1,C2)
 dec:C2=.decreasing->D2=reverseRange D1 a b/\PV=(b-1)-(C1-a)/\HT=.increasing
 JJQ:C2≠.decreasing->D2=D1/\PV=C1/\HT=C2
 par:(wb&&wp&&decide (HT=.increasing))=true->partialInsertionSort ak D2 a b=(D3,dn)
 FL:(wb&&wp&&decide (HT=.increasing))=false->D3=D2/\dn=false
 s1:D1.size=dk.size
 s2:D2.size=dk.size
 s3:D3.size=dk.size
 c1:a<=C1/\C1<b
 pv:a<=PV/\PV<b
 done:dn=true->pdq ak dk a b lim wb wp=D3
 FM:dn=false->(decide (a>0)&& !ak D3[a-1]! D3[PV]!)=true->∀mid D4,partitionEqual ak D3 a b PV=(mid,D4)->
  a<mid/\mid<=b/\D4.size=dk.size/\Below ak mid b D4/\pdq ak dk a b lim wb wp=pdq ak D4 mid b L wb wp
 FN:dn=false->(decide (a>0)&& !ak D3[a-1]! D3[PV]!)=false->∀mid ap D4,partition ak D3 a b PV=(mid,ap,D4)->
  a<=mid/\mid<b/\D4.size=dk.size/\Below ak a mid D4/\Below ak (mid+1) b D4/\
  (mid-a<b-mid->∃E,E=pdq ak D4 a mid L true true/\E.size=dk.size/\Below ak (mid+1) b E/\pdq ak dk a b lim wb wp=pdq ak E (mid+1) b L (decide (mid-a≥(b-a)/8)) ap)/\
  (¬mid-a<b-mid->∃E,E=pdq ak D4 (mid+1) b L true true/\E.size=dk.size/\Below ak a mid E/\pdq ak dk a b lim wb wp=pdq ak E a mid L (decide (b-mid≥(b-a)/8)) ap)
def opened{d:Array Nat}{a b lim:Nat}{wb wp:Bool}(f:¬b-a<=12)(m:¬lim=0)(p:b<=d.size)(v:Below ak a b d):
    ∃w x y L z A B C D,Bo d a b lim wb wp w x y L z A B C D:=by
 obtain⟨s1,G,c1,s2,H,pv,s3,t⟩:=rd_facts (limit:=lim) (wb:=wb) (wp:=wp) gU partialInsertionSort_holds reverseRange_holds (show a<b by omega) p v
 refine⟨(Sort.rd ak d a b lim wb wp).d1,(Sort.rd ak d a b lim wb wp).d2,(Sort.rd ak d a b lim wb wp).pi.1,(Sort.rd ak d a b lim wb wp).lim,(Sort.rd ak d a b lim wb wp).c.1,(Sort.rd ak d a b lim wb wp).pivot,(Sort.rd ak d a b lim wb wp).c.2,(Sort.rd ak d a b lim wb wp).hint,(Sort.rd ak d a b lim wb wp).pi.2,
    {FI:=λh=>by subst h;exact⟨rfl,rfl⟩
     FJ:=λh=>by subst h;exact⟨rfl,rfl⟩
     JJK:=rd_lim_le
     FK:=rfl
     dec:=λh=>rd_dec h
     JJQ:=λh=>rd_not h
     par:=λh=>(rd_pi_yes h).symm
     FL:=λh=>by rw[rd_pi_no h];exact⟨rfl,rfl⟩
     s1:=s1,s2:=s2,s3:=s3,c1:=c1,pv:=pv
     done:=λh=>pdq_done f m h
     FM:=λh k g n e=> ?_
     FN:=λh k g ap n e=> ?_}⟩
 ·have i:=k;simp only[HS,HI,JR]at i;obtain⟨r1,r2,q,o,_⟩:=round_eq gU (partitionEqual_holds ak) i.1 pv.1 pv.2 (by rw[s3];exact p) t i.2 e;exact⟨r1,r2,q.trans s3,o,by rw[pdq_eq f m h k (by rw[e];exact⟨r1,r2⟩),e]⟩
 ·obtain⟨r1,r2,q,o,u,E,F⟩:=round_part gU (partition_holds ak) pv.1 pv.2 (by rw[s3];exact p) t e;have j:n.size=d.size:=q.trans s3;refine⟨r1,r2,j,o,u,λr=> ?_,λr=> ?_⟩
  ·obtain⟨l,s⟩:=pdq_sorts ak gU n a g (Sort.rd ak d a b lim wb wp).lim true true (by omega) (by omega) o;exact⟨_,rfl,l.1.trans j,(E _ l s).1,by rw[pdq_left f m h k (by rw[e];exact⟨r1,r2⟩) (by rw[e];exact r),e]⟩
  ·obtain⟨l,s⟩:=pdq_sorts ak gU n (g+1) b (Sort.rd ak d a b lim wb wp).lim true true (by omega) (by omega) u;exact⟨_,rfl,l.1.trans j,(F _ l s).1,by rw[pdq_right f m h k (by rw[e];exact⟨r1,r2⟩) (by rw[e];exact r),e]⟩
def tq{x y p q:Nat}(a:q<=p)(b:y<=x):decide (((x:Int)-(y:Int))/8<=(p:Int)-(q:Int))=decide (p-q≥(x-y)/8):=
 IQ.2 ⟨λh=>by omega,λh=>by omega⟩
def uZ{h:Hint}(e:lD h=2):h=.decreasing:=by cases h<;>simp[lD]at e ⊢
def FO:∀(N blk off cap a b limit:Nat) (d:Array Nat) (w:World),b-a<N->Holds en w blk off d->blk<w.heap.size->a<=b->b<=d.size->d.size<2305843009213693952->limit<4611686018427387904->Below ak a b d->
    Calls Tryz.prog 127 #[.slice (some ⟨blk,off,none⟩) d.size cap,.int .i64 a,.int .i64 b,.int .i64 limit] w λe w'=>e=.returned (.tuple #[])/\Rw w blk off (pdq ak d a b limit true true) w':=by
 intro N;induction N with
 |zero=>intro _ _ _ _ _ _ _ _ h;exact absurd h (KU _)
 |succ N ih=>
  intro blk off cap a b limit d w hN S af ax hb hsz av ay;have T:=aa S;have aK:=aa ih;have ag:=aa (Rw.refl S af);clear ih S;go_enter Tryz.func127,Tryz.ntmps127;go_wp2
  go_loopg [1,2,3,8,9] (b-a) (λk s1 s2 s3 s8 s9 wr=>∃(a' i lim:Nat) (wb wp:Bool) (z:Array Nat),s1=.int .i64 a'/\s2=.int .i64 i/\s3=.int .i64 lim/\s8=.bool wb/\s9=.bool wp/\
   a'<=i/\i<=d.size/\i-a'<=k/\k<=b-a/\lim<=limit/\z.size=d.size/\Below ak a' i z/\Rw w blk off z wr/\Hid (pdq ak d a b limit true true=pdq ak z a' i lim wb wp))
  case atStart=>exact⟨a,b,limit,true,true,d,rfl,rfl,rfl,rfl,rfl,ax,hb,Hm _,Hm _,Hm _,rfl,ay,ag.out,rfl⟩
  case round=>
   clear ag;obtain⟨a',i,lim,wb,wp,z,rfl,rfl,rfl,rfl,rfl,m,az,hk,aO,aL,j,ah,r,ae⟩:=hrel;have s:Holds en wr blk off z:=r.holds T.out j;by_cases U:i-a'<=12
   ·have ai:(i:Int)-(a':Int)<=12:=by omega
    have g:=uU blk off cap a' i z wr s m (by omega) (by omega);rw[j]at g
    have l:=aa g;clear g s;go_wp2_with(go_at_call 146;refine l.out.mono ?_;rintro e w1 ⟨rfl,A⟩)
    (try simp only[Exit.inBlock,Exit.then]);refine HT (If rfl _ _ _) rfl ?_
    refine⟨rfl,?_⟩;rw[ae.out,pdq_small U];exact r.put (insertionSort_holds gU z a' i m (by omega)).1.1 A
   ·have ai:¬((i:Int)-(a':Int)<=12):=by omega
    by_cases aj:lim=0
    ·subst aj;have g:=DU blk off cap a' i z wr s m (by omega) (by omega);rw[j]at g
     have l:=aa g;clear g s;go_wp2_with(go_at_call 147;refine l.out.mono ?_;rintro e w1 ⟨rfl,A⟩)
     (try simp only[Exit.inBlock,Exit.then]);refine HT (If rfl _ _ _) rfl ?_
     refine⟨rfl,?_⟩;rw[ae.out,pdq_heap U rfl];exact r.put (heapSort_holds gU z a' i m (by omega)).1.1 A
    ·have aM:¬((lim:Int)=0):=by omega
     obtain⟨D1,D2,I,L,C1,V,C2,aw,dn,O⟩:=opened (wb:=wb) (wp:=wp) U aj (show i<=z.size by omega) ah;have aP:=O.JJK;have B:=O.s1.trans j;have C:=O.s2.trans j;have o:=O.s3.trans j;have aQ:=O.c1;have J:=O.pv;go_upto_if 35 with fail;go_cut [3]from 19 (λs3 wc=>s3=.int .i64 L/\Rw w blk off D1 wc)
     case first=>
      cases wb with
      |false=>
       obtain⟨D,K⟩:=O.FI rfl;have g:=Bn blk off cap a' i z wr s r.blk m (by omega) (by omega);rw[j,<-D]at g
       have l:=aa g;have aA:(lim:Int)-1=(L:Int):=by omega
       clear g s D K;go_wp2_with(go_at_call 148;refine l.out.mono ?_;rintro e w1 ⟨rfl,A⟩);go_meet
       case rel=>exact⟨by first|rfl|rw[aA]|(congr 1),r.trans O.s1 A⟩
      |true=>
       obtain⟨D,K⟩:=O.FJ rfl;subst D K;go_wp2_with fail;go_meet
       case rel=>exact⟨by first|rfl|trivial,r⟩
     case rest=>
      obtain⟨rfl,u⟩:=hcut;clear r s;have g:=qa blk off cap a' i D1 wc (u.holds T.out B) u.blk (by omega) (by omega) (by omega);rw[O.FK,B]at g
      have l:=aa g;clear g;go_upto_if 50 with(go_at_call 149;refine l.out.mono ?_;rintro e w2 ⟨rfl,al⟩)
      have v:Rw w blk off D1 w2:=u.old al;clear l al u;go_cut [11,12]from 19 (λaB aC wc=>aB=.int .i64 V/\aC=.int .i64 (lD aw)/\Rw w blk off D2 wc)
      case first=>
       by_cases hh:C2=.decreasing
       ·obtain⟨D,K,e3⟩:=O.dec hh;have g:=xH blk off cap a' i D1 w2 (v.holds T.out B) m (by omega) (by omega);rw[B,<-D]at g
        have l:=aa g;have aD:(i:Int)-1-((C1:Int)-(a':Int))=(V:Int):=by omega
        subst hh e3;have W:lD .decreasing=2:=rfl;clear g D K;go_wp2_with(go_at_call 150;refine l.out.mono ?_;rintro e w3 ⟨rfl,aE⟩);go_meet
        case rel=>exact⟨by first|rfl|rw[aD],rfl,v.put (by rw[C,B]) aE⟩
       ·have W:¬(lD C2=2):=λh=>hh (uZ h);obtain⟨D,K,e3⟩:=O.JJQ hh;subst D K e3;go_wp2_with fail;go_meet
        case rel=>exact⟨rfl,rfl,v⟩
      case rest=>
       obtain⟨rfl,rfl,p⟩:=hcut;clear v;go_upto_region 15 with fail;go_cut [68]from 19 (λaF wx=>aF=.bool (wb&&wp&&decide (aw=.increasing))/\wx=wc)
       case first=>
        cases wb<;>cases wp<;>cases aw<;>
           (simp only[lD]
            go_wp2_with fail;go_meet
            exact⟨by simp,rfl⟩)
       case rest=>
        obtain⟨rfl,rfl⟩:=hcut;go_upto_if 68 with fail;go_cut []from 19 (λwx=>dn=false/\Rw w blk off I wx)
        case first=>
         cases an:(wb&&wp&&decide (aw=.increasing))with
         |false=>
          obtain⟨D,K⟩:=O.FL an;subst D K;go_wp2_with fail;go_meet
          case rel=>exact⟨by first|rfl|trivial,p⟩
         |true=>
          have g:=xI blk off cap a' i D2 wc (p.holds T.out C) (by omega) (by omega) (by omega);rw[O.par an,C]at g
          have l:=aa g;clear g;cases dn with
          |false=>
           go_wp2_with(go_at_call 151;refine l.out.mono ?_;rintro e w4 ⟨rfl,X⟩);go_meet
           case rel=>exact⟨by first|rfl|trivial,p.put (by rw[o,C]) X⟩
          |true=>
           go_wp2_with(go_at_call 151;refine l.out.mono ?_;rintro e w4 ⟨rfl,X⟩)
           (try simp only[Exit.inBlock,Exit.then]);refine HT (If rfl _ _ _) rfl ?_
           refine⟨rfl,?_⟩;rw[ae.out,O.done rfl];exact p.put (by rw[o,C]) X
        case rest=>
         obtain⟨rfl,x⟩:=hcut;clear p;obtain⟨G,hG⟩:∃G:Nat->Nat,∀t,G t=I[t]! :=⟨λt=>I[t]!,λ_=>rfl⟩
         have Y:=x.holds T.out o;have aG:∀t,t<d.size->wc.cell? ⟨blk,off+t,none⟩=some (en (G t)):=λt ht=>by rw[hG];exact(Y t (by omega)).1
         have aH:∀t,t<d.size->wc.frozen? ⟨blk,off+t,none⟩=false:=λt ht=>(Y t (by omega)).2;have aN:=aa hG;clear hG Y;obtain⟨ao,aq⟩:∃c,(decide (a'>0)&& !ak I[a'-1]! I[V]!)=c:=⟨_,rfl⟩
         have M:=aa aq;clear aq;go_upto_region 17 with fail;go_cut [87]from 19 (λaI wx=>aI=.bool ao/\Rw w blk off I wx)
         case first=>
          rcases Js a' with Z|Z
          ·have ar:decide ((a':Int)>0)=false:=HN (by omega);go_big_quiet (first|(go_at_call 152;refine Calls.quiet_of_same (less _ _ _)))
           go_wp2_with fail;go_meet
           case rel=>exact⟨by rw[<-M.out];simp[Z],x.old ⟨rfl,rfl,rfl,Hm _,λ_ _ _=>rfl⟩⟩
          ·have ar:(a':Int)>0:=by omega
           go_big_quiet (first|(go_at_call 152;refine Calls.quiet_of_same (less _ _ _)))
           go_wp2_with fail;go_meet
           case rel=>exact⟨by rw[<-M.out,<-aN.out,<-aN.out];simp[Z],x.old ⟨rfl,rfl,rfl,Hm _,λ_ _ _=>rfl⟩⟩
         case rest=>
          obtain⟨rfl,y⟩:=hcut;clear aG aH x;have P:=y.holds T.out o;cases ao with
          |false=>
           obtain⟨f,ap,F,hx⟩:∃f ap F,partition ak I a' i V=(f,ap,F):=⟨_,_,_,rfl⟩
           obtain⟨r1,r2,r3,r4,r5,r6,r7⟩:=O.FN rfl M.out f ap F hx;have g:=DW blk off cap a' i V I wc P J.1 J.2 (by omega) (by omega);rw[hx,o]at g
           have l:=aa g;have n:=r3.trans j;have O2:=O;clear g hx P O;go_upto_if 113 with(go_at_call 154;refine l.out.mono ?_;rintro e w7 ⟨rfl,Q⟩)
           have q:Rw w blk off F w7:=y.put (by rw[n,o]) Q;have R:=q.holds T.out n;clear Q y l;by_cases h4:f-a'<i-f
           ·have aJ:(f:Int)-(a':Int)<(i:Int)-(f:Int):=by omega
            obtain⟨E,rfl,q1,q2,q3⟩:=r6 h4;clear r6 r7;have g:=aK.out blk off cap a' f L F w7 (by omega) R q.blk (by omega) (by omega) (by omega) (by omega) r4;rw[n]at g
            have l:=aa g;have au:=aa q3;have ac:=aa q2;have H:=aa (q1.trans j);clear g q1 q2 q3 R;go_wp2_with(go_at_call 127;refine l.out.mono ?_;rintro e w8 ⟨rfl,ad⟩);go_roundg (i-(f+1))
            case measure=>omega
            case rel=>
             refine⟨f+1,i,L,decide (f-a'≥(i-a')/8),ap,_,by simp,rfl,rfl,?_,rfl,by omega,by omega,Hm _,by omega,by omega,H.out,ac.out,q.trans (by rw[H.out,n]) ad,?_⟩
             ·exact HC Value.bool (tq (by omega) (by omega))
             ·show _=_;rw[ae.out,au.out]
           ·have aJ:¬((f:Int)-(a':Int)<(i:Int)-(f:Int)):=by omega
            obtain⟨E,rfl,q1,q2,q3⟩:=r7 h4;clear r6 r7;have g:=aK.out blk off cap (f+1) i L F w7 (by omega) R q.blk (by omega) (by omega) (by omega) (by omega) r5;rw[n]at g
            have l:=aa g;have au:=aa q3;have ac:=aa q2;have H:=aa (q1.trans j);clear g q1 q2 q3 R;go_wp2_with(go_at_call 127;refine l.out.mono ?_;rintro e w8 ⟨rfl,ad⟩);go_roundg (f-a')
            case measure=>omega
            case rel=>
             refine⟨a',f,L,decide (i-f≥(i-a')/8),ap,_,rfl,rfl,rfl,?_,rfl,by omega,by omega,Hm _,by omega,by omega,H.out,ac.out,q.trans (by rw[H.out,n]) ad,?_⟩
             ·exact HC Value.bool (tq (by omega) (by omega))
             ·show _=_;rw[ae.out,au.out]
          |true=>
           obtain⟨f,F,hx⟩:∃f F,partitionEqual ak I a' i V=(f,F):=⟨_,_,rfl⟩
           obtain⟨r1,r2,r3,r4,r5⟩:=O.FM rfl M.out f F hx;have g:=zk blk off cap a' i V I wc P J.1 J.2 (by omega) (by omega);rw[hx,o]at g
           have l:=aa g;have au:=aa r5;have n:=r3.trans j;clear g hx P O r5;go_wp2_with(go_at_call 153;refine l.out.mono ?_;rintro e w7 ⟨rfl,Q⟩);go_roundg (i-f)
           case measure=>omega
           case rel=>exact⟨f,i,L,wb,wp,F,rfl,rfl,rfl,rfl,rfl,r2,az,Hm _,by omega,by omega,n,r4,y.put (by rw[n,o]) Q,by show _=_;rw[ae.out,au.out]⟩
def xK:zj 2305843009213693951:=λblk cap limit d w a b e c=>by
 exact FO (d.size+1) blk 0 cap 0 d.size limit d w (by omega) a b (Hv _) (Hm _) (by omega) c (.inl rfl)
end sortUint16
end Go.Proofs.YtincjochpkdnfaaGreatDoor
