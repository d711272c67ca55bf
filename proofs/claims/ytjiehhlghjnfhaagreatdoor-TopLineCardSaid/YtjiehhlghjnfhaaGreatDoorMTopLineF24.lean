/- slices.Sort of unsigned numbers of 16 bits: the library's pdqsort, function by function, computes the kit's plain one; a row of the caller's own is sorted by it, whatever its length. -/
import Derived.Test.YtjiehhlghjnfhaaGreatDoorMTopLineF0
import Derived.Sort.AssemblyPlain
import Derived.Sort.Walk13a
import Derived.Sort.WalkA
import Derived.BigGuard
import Derived.BigCall
import Derived.CellFam
import Derived.Deep.Draws
import Derived.Deep.QuietTactic
import Derived.BigQuiet
import Derived.Test.YtjiehhlghjnfhaaGreatDoorProg
import Derived.Test.YtjiehhlghjnfhaaGreatDoorShelf
import Derived.Deep.LoopGhost
import Derived.Sort.WalkA14
import Derived.Sort.WalkB2
import Derived.Test.YtjiehhlghjnfhaaGreatDoorMTopLineF1
import Derived.Sort.WalkA6
import Derived.Sort.WalkC4
import Derived.Sort.WalkC
import Derived.Sort.Walk7
import Derived.Deep.Cut
set_option linter.unusedVariables false
set_option linter.unusedSimpArgs false
set_option maxHeartbeats 16000000
namespace Go.Proofs.YtjiehhlghjnfhaaGreatDoor.aC
open Go.RowKit Go.Sort Go.Proofs.YtjiehhlghjnfhaaGreatDoor
abbrev en (x:Nat):Value:=.int .u16 x
def aj (x y:Nat):Bool:=decide (x<y)
theorem nV:SWO aj:=⟨fun x=>by simp[aj],fun x y z=>by simp only[aj,decide_eq_true_eq];omega,fun x y z=>by simp only[aj,decide_eq_false_iff_not];omega⟩
theorem isNaN (x:Nat) (w:World):Calls Tryz.prog 245 #[en x] w fun e w'=>e=.returned (.bool false)∧w'=w:=by
 go_enter Tryz.func245,Tryz.ntmps245
 go_wp2
 go_ret
 exact⟨by simp,rfl⟩
theorem less (x y:Nat) (w:World):Calls Tryz.prog 230 #[en x,en y] w fun e w'=>e=.returned (.bool (aj x y))∧w'=w:=by
 go_enter Tryz.func230,Tryz.ntmps230
 go_wp2_with(go_at_call 245;refine(isNaN _ _).mono ?_;rintro e w' ⟨rfl,rfl⟩)
 go_ret
 exact⟨rfl,rfl⟩
def aN:Value→Int| .int _ q=>q|_=>0
set_option maxRecDepth 100000 in
theorem insertion (blk off cap a b:Nat) (d:Array Nat) (w:World) (hH:Holds en w blk off d) (hab:a≤b) (hb:b≤d.size) (hsz:d.size<4611686018427387904):
 Calls Tryz.prog 224 #[.slice (some ⟨blk,off,none⟩) d.size cap,.int .i64 a,.int .i64 b] w fun e w'=>e=.returned (.tuple #[])∧∃n,w'=putRow en (Sort.ahead w n) blk off (Sort.insertionSort aj d a b):=by
 go_enter Tryz.func224,Tryz.ntmps224
 go_wp2
 go_loopw [6] (fun vi wr=>∃(i n:Nat) (D:Array Nat),vi=.int .i64 i∧a<i∧i≤b+1∧D.size=d.size∧wr=putRow en (Sort.ahead w n) blk off D∧Hid (insOuter aj a b i D=insOuter aj a b (a+1) d)) (fun vi _=>b+1-(aN vi).toNat)
 case atStart=>exact⟨a+1,0,d,by go_num,by omega,by omega,rfl,(putRow_self _ _ _ _ _ hH).symm,rfl⟩
 case round=>
  obtain⟨i,n,D,rfl,hai,hib,hDs,hwr,hO⟩:=hrel
  go_wp2
  ·have hlt:i<b:=by assumption
   go_loopw [7] (fun vj wr2=>∃(j m:Nat) (E:Array Nat),vj=.int .i64 j∧a≤j∧j≤i∧E.size=d.size∧wr2=putRow en (Sort.ahead w m) blk off E∧Hid (insInner aj a j E=insInner aj a i D)) (fun vj _=>(aN vj).toNat)
   case atStart=>exact⟨i,n,D,rfl,by omega,Nat.le_refl _,hDs,rfl,rfl⟩
   case round=>
    obtain⟨j,m,E,rfl,haj,hji,hEs,hw2,hI⟩:=hrel;obtain⟨G,hG⟩:∃G:Nat→Nat,∀t,G t=E[t]! :=⟨fun t=>E[t]!,fun _=>rfl⟩
    have hcw:∀t,t<d.size→wr.cell? ⟨blk,off+t,none⟩=some (en (G t)):=fun t ht=>by
     rw[hw2,hG];exact cell?_putRow _ _ _ _ d E (holds_ahead _ _ _ _ _ _ hH) hEs t (by omega)
    have hfw:∀t,t<d.size→wr.frozen? ⟨blk,off+t,none⟩=false:=fun t ht=>by
     rw[hw2,frozen?_putRow];exact((holds_ahead _ _ m _ _ _ hH) t ht).2
    have HW:=ae hw2;have HG:=ae hG;clear hw2 hG hH hwr;have out:(j≤a∨aj E[j]! E[j-1]! =false)→∀q,∃i' n' E',Value.int .i64 ((i:Int)+1)=.int .i64 (i':Nat)∧a<i'∧i'≤b+1∧E'.size=d.size∧
     wr.drewN q=putRow en (Sort.ahead w n') blk off E'∧Hid (insOuter aj a b i' E'=insOuter aj a b (a+1) d):=fun hs q=>
     ⟨i+1,m+q,E,by go_num,by omega,by omega,hEs,by rw[HW.out];exact putRow_drewN _ _ _ _ _ _ _,
      by show _=_;rw[←hO.out,insOuter_go _ _ _ _ _ hlt,←hI.out,insInner_stop _ _ _ _ hs]⟩
    have OUT:=ae out;clear out
    go_wp2
    by_cases hja:a<j
    ·go_quiet (first|(go_at_call 230;refine Calls.quiet_of_same (less _ _ _)))
     go_wp2
     ·have hl:aj (G j) (G (j-1))=true:=by assumption
      go_region
      all_goals go_wp2
      go_roundw
      case rel=>
       refine⟨j-1,m+(nq+1),Sort.swp E j (j-1),by congr 1;omega,by omega,by omega,by rw[size_swp];exact hEs,?_,?_⟩
       ·rw[HW.out,HG.out,HG.out];exact swap_worldA _ w m (nq+1) blk off E j (j-1) (by omega) (by omega)
       ·show _=_;rw[←hI.out,insInner_go aj a j E hja (by rw[←HG.out,←HG.out];exact hl)]
      case measure=>simp[aN];omega
     ·have hl:aj (G j) (G (j-1))=false:=by assumption
      go_roundw
      case rel=>exact OUT.out (Or.inr (by rw[←HG.out,←HG.out];exact hl)) nq
      case measure=>simp[aN];omega
    ·go_quiet (first|(go_at_call 230;refine Calls.quiet_of_same (less _ _ _)))
     go_wp2
     go_roundw
     case rel=>exact OUT.out (Or.inl (by omega)) nq
     case measure=>simp[aN];omega
  ·have hge:¬i<b:=by assumption
   go_end0
   exact⟨rfl,n,by unfold Sort.insertionSort;rw[←hO.out,insOuter_stop _ _ _ _ _ hge]⟩
end Go.Proofs.YtjiehhlghjnfhaaGreatDoor.aC
namespace Go.Proofs.YtjiehhlghjnfhaaGreatDoor.aC
open Go.RowKit Go.Sort Go.Proofs.YtjiehhlghjnfhaaGreatDoor
end Go.Proofs.YtjiehhlghjnfhaaGreatDoor.aC
namespace Go.Proofs.YtjiehhlghjnfhaaGreatDoor.aC
open Go.RowKit Go.Sort Go.Proofs.YtjiehhlghjnfhaaGreatDoor
theorem lM (w:World) (blk off:Nat) (d:Array Nat):(putRow en w blk off d).heap[blk]? =(w.heap[blk]?).map (onCells (putCells en off d)):=by
 simp[putRow,mapBlock,Array.getElem?_modify]
theorem oQ {w w':World} {blk off:Nat} {d:Array Nat} (h:Holds en w blk off d) (e:w'.heap[blk]? =w.heap[blk]?):Holds en w' blk off d:=by
 intro j hj;obtain⟨h1,h2⟩:=h j hj;exact⟨by simp only[World.cell?]at h1 ⊢;rw[e];exact h1,by simp only[World.frozen?]at h2 ⊢;rw[e];exact h2⟩
structure Rw (w:World) (blk off:Nat) (d:Array Nat) (W:World):Prop where
 lt:blk<w.heap.size
 row:W.heap[blk]? =(putRow en w blk off d).heap[blk]?
 kp:Kp (fun b=>b=blk) w W
theorem Rw.refl {w:World} {blk off:Nat} {d:Array Nat} (h:Holds en w blk off d) (hb:blk<w.heap.size):Rw w blk off d w:=
 ⟨hb,by rw[putRow_self _ _ _ _ _ h],Kp.refl _ _⟩
theorem Rw.old {w W W':World} {blk off:Nat} {d:Array Nat} (h:Rw w blk off d W) (k:Kp none' W W'):Rw w blk off d W':=
 ⟨h.lt,(k.block blk (Nat.lt_of_lt_of_le h.lt h.kp.size) id).trans h.row,h.kp.then k (fun _ _ x=>x.elim)⟩
theorem Rw.holds {w W:World} {blk off:Nat} {d d0:Array Nat} (h:Rw w blk off d W) (h0:Holds en w blk off d0) (hs:d.size=d0.size):Holds en W blk off d:=
 oQ (holds_putRow en w blk off d0 d h0 hs) h.row
theorem Rw.blk {w W:World} {blk off:Nat} {d:Array Nat} (h:Rw w blk off d W):blk<W.heap.size:=Nat.lt_of_lt_of_le h.lt h.kp.size
theorem yX (w:World) (blk off n:Nat) (d:Array Nat):Kp (fun b=>b=blk) w (putRow en (Sort.ahead w n) blk off d):=by
 refine⟨rfl,rfl,rfl,by simp[putRow,mapBlock,Sort.ahead],fun k hk hne=> ?_⟩;have:blk≠k:=fun e=>hne e.symm
 simp[putRow,mapBlock,Sort.ahead,Array.getElem?_modify,this]
theorem Rw.put {w W W':World} {blk off:Nat} {d d':Array Nat} (h:Rw w blk off d W) (hs:d'.size=d.size) (e:∃n,W'=putRow en (Sort.ahead W n) blk off d'):Rw w blk off d' W':=by
 obtain⟨n,rfl⟩:=e;refine⟨h.lt,?_,h.kp.then (yX W blk off n d') (fun i _ x=>x)⟩;have e1:(putRow en (Sort.ahead W n) blk off d').heap[blk]? =(W.heap[blk]?).map (onCells (putCells en off d')):=lM _ _ _ _;have e2:(putRow en (putRow en w blk off d) blk off d').heap[blk]? =((putRow en w blk off d).heap[blk]?).map (onCells (putCells en off d')):=lM _ _ _ _;rw[e1,h.row,←e2];have:=putRow_ahead_putRow en w 0 0 blk off d d' hs;rw[ahead_zero,ahead_zero]at this;rw[this]
theorem Rw.ac1 {w W:World} {blk off:Nat} {d:Array Nat} (hb:blk<w.heap.size) (h:At en w blk off d W):Rw w blk off d W:=by
 obtain⟨n,os,rfl⟩:=h;have hb2:blk<(putRow en (Sort.ahead w n) blk off d).heap.size:=by simpa[putRow,mapBlock,Sort.ahead]using hb
 refine⟨hb,?_,?_⟩
 ·rw[heap_grow_old _ _ hb2,lM,lM];rfl
 ·refine⟨rfl,rfl,rfl,by simp[grow,putRow,mapBlock,Sort.ahead],fun k hk hne=> ?_⟩;rw[heap_grow_old _ _ (by simpa[putRow,mapBlock,Sort.ahead]using hk)];exact(yX w blk off n d).block k hk hne
theorem Rw.trans {w W W':World} {blk off:Nat} {d d':Array Nat} (h:Rw w blk off d W) (hs:d'.size=d.size) (k:Rw W blk off d' W'):Rw w blk off d' W':=by
 refine⟨h.lt,?_,h.kp.then k.kp (fun i _ x=>x)⟩;have:=(h.put hs ⟨0,rfl⟩).row;rw[ahead_zero]at this;rw[k.row,this]
end Go.Proofs.YtjiehhlghjnfhaaGreatDoor.aC
namespace Go.Proofs.YtjiehhlghjnfhaaGreatDoor.aC
open Go.RowKit Go.Sort Go.Proofs.YtjiehhlghjnfhaaGreatDoor
theorem Ie {w:World} {g:Nat} {cur:Array Value} {e:TypeId} {xs:List Nat} (hb:w.heap[g]? =some (.cells cur e (0,0))) (ht:cur.toList.take xs.length=xs.map en):Holds en w g 0 xs.toArray:=by
 intro j hj;have hj':j<xs.length:=by simpa using hj
 refine⟨?_,by simp[World.frozen?,hb]⟩;have h1:(cur.toList.take xs.length)[j]? =(xs.map en)[j]? :=by rw[ht]
 rw[List.getElem?_take_of_lt hj']at h1;simp only[World.cell?,hb,Nat.zero_add,Option.isSome_none,Bool.false_eq_true,if_false];rw[←Array.getElem?_toList,h1];simp[hj']
theorem Ux {w w':World} {g:Nat} {d:Array Nat} {cur:Array Value} {e:TypeId} {fr:Nat×Nat} (h:Rw w g 0 d w') (hb:w.heap[g]? =some (.cells cur e fr)):w'.heap[g]? =some (.cells (putCells en 0 d cur) e fr):=by
 rw[h.row,lM,hb];rfl
theorem takeRow (cur:Array Value) (ts:List Nat) (h:ts.length≤cur.size):(putCells en 0 ts.toArray cur).toList.take ts.length=ts.map en:=by
 apply List.ext_getElem?
 intro j;by_cases hj:j<ts.length
 ·rw[List.getElem?_take_of_lt hj,Array.getElem?_toList];simp[putCells,hj,show j<cur.size by omega]
 ·rw[List.getElem?_take_eq_none (by omega),List.getElem?_eq_none (by simp;omega)]
structure QY (xs ys:List Nat):Prop where
 perm:ys.Perm xs
 up:ys.Pairwise (·≤ ·)
theorem PL (xs:List Nat) (lim:Nat):QY xs (pdq aj xs.toArray 0 xs.length lim true true).toList:=by
 obtain⟨h1,h2⟩:=pdq_sorts aj nV xs.toArray 0 xs.length lim true true (Nat.zero_le _) (by simp) (.inl rfl);have hs:(pdq aj xs.toArray 0 xs.length lim true true).size=xs.length:=by simpa using h1.1
 refine⟨?_,?_⟩
 ·have:=h1.2.2;rw[Array.extract_eq_self_of_le (by omega)]at this;simpa using this
 ·rw[List.pairwise_iff_getElem];intro i j hi hj hij;simp only[Array.length_toList]at hi hj;have:=h2 i j (Nat.zero_le _) hij (by omega);rw[getElem!_pos (pdq aj xs.toArray 0 xs.length lim true true) i hi,getElem!_pos (pdq aj xs.toArray 0 xs.length lim true true) j hj]at this;simp only[aj,decide_eq_false_iff_not]at this;simp only[Array.getElem_toList];omega
def XY (most:Nat):Prop:=∀(blk cap limit:Nat) (d:Array Nat) (w:World),Holds en w blk 0 d→blk<w.heap.size→d.size≤most→limit<4611686018427387904→
    Calls Tryz.prog 199 #[.slice (some ⟨blk,0,none⟩) d.size cap,.int .i64 0,.int .i64 d.size,.int .i64 limit] w fun e w'=>e=.returned (.tuple #[])∧Rw w blk 0 (pdq aj d 0 d.size limit true true) w'
theorem PM (n:Nat) (h:n<4611686018427387904):Lib.bitLen n<4611686018427387904:=by
 rw[bitLen_eq n (by omega)];have:=(bitsLen_le_iff n 62).2 (by omega);omega
set_option maxRecDepth 100000 in
theorem Uy (w:World):Calls Tryz.prog 158 #[.slice none 0 0] w fun e w'=>e=.returned (.tuple #[])∧w'=w:=by
 have hl:=ae (Tryz.bits_Len 0 w (by omega) (by omega));have hi:Calls Tryz.prog 224 #[.slice none 0 0,.int .i64 0,.int .i64 0] w fun e w'=>e=.returned (.tuple #[])∧w'=w:=by
  go_enter Tryz.func224,Tryz.ntmps224
  go_wp2
  go_loopw [6] (fun vi wr=>vi=.int .i64 1∧wr=w) (fun _ _=>0)
  case atStart=>exact⟨rfl,rfl⟩
  case round=>
   obtain⟨rfl,rfl⟩:=hrel
   go_wp2
   go_end0
   exact⟨rfl,rfl⟩
 have HI:=ae hi;have hp:Calls Tryz.prog 199 #[.slice none 0 0,.int .i64 0,.int .i64 0,.int .i64 (Lib.bitLen (Int.toNat 0):Nat)] w fun e w'=>e=.returned (.tuple #[])∧w'=w:=by
  clear hi
  go_enter Tryz.func199,Tryz.ntmps199
  go_wp2
  go_loopg [1,2,3,8,9] 0 (fun k s1 s2 s3 s8 s9 wr=>s1=.int .i64 0∧s2=.int .i64 0∧wr=w)
  case atStart=>exact⟨rfl,rfl,rfl⟩
  case round=>
   obtain⟨rfl,rfl,rfl⟩:=hrel
   go_wp2_with(go_at_call 224;refine HI.out.mono ?_;rintro e w1 ⟨rfl,hw1⟩)
   (try simp only[Exit.inBlock,Exit.then]);refine bodyPost_ret (results_none rfl _ _ _) rfl ?_
   exact⟨rfl,by first|exact hw1|rfl⟩
 have HP:=ae hp;clear hi hp HI
 go_enter Tryz.func158,Tryz.ntmps158
 go_wp2_with(first|(go_at_call 200;refine hl.out.mono ?_;rintro e w' ⟨rfl,rfl⟩)|(go_at_call 199;refine HP.out.mono ?_;rintro e w' ⟨rfl,rfl⟩))
 go_end0
 exact⟨rfl,rfl⟩
set_option maxRecDepth 100000 in
theorem aay {most:Nat} (HP0:XY most) (acG:most<4611686018427387904) (w:World) (base:Nat) (e0:TypeId) (v:Value) (xs:List Nat) (own:w.ownsRow base e0 1 v xs.length (xs.map en)) (hm:xs.length≤most):
 Calls Tryz.prog 158 #[v] w fun e w'=>e=.returned (.tuple #[])∧∃ys,QY xs ys∧w'.ownsRow base e0 1 v ys.length (ys.map en)∧Kp (fun b=>v.ownBlock=some b) w w':=by
 rcases own.2 with⟨rfl,hn⟩|⟨g,cap,cur,rfl,hg,hb,h1,h2,h3,h4⟩
 ·have hx:xs=[]:=List.eq_nil_of_length_eq_zero hn;subst hx;refine(Uy w).mono fun e w' h=>⟨h.1,[],⟨List.Perm.refl _,List.Pairwise.nil⟩,?_,?_⟩
  ·rw[h.2];exact own
  ·rw[h.2];exact Kp.refl _ _
 ·rw[Nat.mul_one]at h3 h4;have hH:=Ie hb h4;have hsz:xs.toArray.size=xs.length:=by simp
  have hl:=ae (Tryz.bits_Len (xs.length:Nat) w (by omega) (by omega));have hp:=fun lim (hlim:lim<4611686018427387904)=>HP0 g cap lim xs.toArray w hH (Array.getElem?_eq_some_iff.1 hb).1 (by omega) hlim
  rw[hsz]at hp;rw[Int.toNat_natCast]at hl;have HP:=ae (hp _ (PM xs.length (by omega)));clear hp HP0 own hH
  go_enter Tryz.func158,Tryz.ntmps158
  go_wp2_with(first|(go_at_call 200;refine hl.out.mono ?_;rintro e w' ⟨rfl,rfl⟩)|(go_at_call 199;refine HP.out.mono ?_;rintro e w2 ⟨rfl,hAt⟩))
  go_end0
  have hr:=PL xs (Lib.bitLen xs.length);have hyl:=hr.perm.length_eq;refine⟨rfl,_,hr,?_,?_⟩
  ·refine⟨by simp,.inr ⟨g,cap,_,by rw[hyl],hg,Ux hAt hb,by omega,h2,by simp[putCells,h3],?_⟩⟩;rw[Nat.mul_one];exact takeRow cur _ (by omega)
  ·refine hAt.kp.mono fun b _ hbg=> ?_
   subst hbg;rfl
end Go.Proofs.YtjiehhlghjnfhaaGreatDoor.aC
namespace Go.Proofs.YtjiehhlghjnfhaaGreatDoor.aC
open Go.RowKit Go.Sort Go.Proofs.YtjiehhlghjnfhaaGreatDoor
theorem aaz (i j:Nat) (d:Array Nat) (h:i<j):reverseLoop i j d=reverseLoop (i+1) (j-1) (Sort.swp d i j):=by rw[reverseLoop,if_pos h]
theorem Uz (i j:Nat) (d:Array Nat) (h:¬i<j):reverseLoop i j d=d:=by rw[reverseLoop,if_neg h]
set_option maxRecDepth 100000 in
theorem UA (blk off cap a b:Nat) (d:Array Nat) (w:World) (hH:Holds en w blk off d) (hab:a≤b) (hb:b≤d.size) (hsz:d.size<4611686018427387904):
 Calls Tryz.prog 228 #[.slice (some ⟨blk,off,none⟩) d.size cap,.int .i64 a,.int .i64 b] w fun e w'=>e=.returned (.tuple #[])∧∃n,w'=putRow en (Sort.ahead w n) blk off (Sort.reverseRange d a b):=by
 go_enter Tryz.func228,Tryz.ntmps228
 go_wp2
 go_loopw [6,7] (fun vi vj wr=>∃(i j n:Nat) (D:Array Nat),vi=.int .i64 i∧vj=.int .i64 ((j:Int)-1)∧i≤d.size∧j≤d.size∧D.size=d.size∧wr=putRow en (Sort.ahead w n) blk off D∧Hid (reverseLoop i (j-1) D=Sort.reverseRange d a b)) (fun _ vj _=>(aN vj).toNat)
 case atStart=>exact⟨a,b,0,d,rfl,rfl,by omega,hb,rfl,(putRow_self _ _ _ _ _ hH).symm,rfl⟩
 case round=>
  obtain⟨i,j,n,D,rfl,rfl,hi,hj,hDs,hwr,hO⟩:=hrel;by_cases hlt:i<j-1
  ·obtain⟨k,hk⟩:∃k,j-1=k:=⟨_,rfl⟩
   have hjk:(j:Int)-1=(k:Int):=by omega
   rw[hk]at hlt hO;have hkd:k<d.size:=by omega
   have aex:(i:Int)<k:=by omega
   have hid:i<d.size:=by omega
   simp only[hjk];obtain⟨G,hG⟩:∃G:Nat→Nat,∀t,G t=D[t]! :=⟨fun t=>D[t]!,fun _=>rfl⟩
   have hcw:∀t,t<d.size→wr.cell? ⟨blk,off+t,none⟩=some (en (G t)):=fun t ht=>by
    rw[hwr,hG];exact cell?_putRow _ _ _ _ d D (holds_ahead _ _ _ _ _ _ hH) hDs t (by omega)
   have hfw:∀t,t<d.size→wr.frozen? ⟨blk,off+t,none⟩=false:=fun t ht=>by
    rw[hwr,frozen?_putRow];exact((holds_ahead _ _ n _ _ _ hH) t ht).2
   have HW:=ae hwr;have HG:=ae hG;have hk1:Hid ((k:Int)-1=(((k:Nat):Int))-1):=rfl;clear hwr hG hH hk hjk hj
   go_wp2
   go_region
   all_goals go_wp2
   go_roundw
   case rel=>
    refine⟨i+1,k,n+1,Sort.swp D i k,by go_num,rfl,by omega,by omega,by rw[size_swp];exact hDs,?_,?_⟩
    ·rw[HW.out,HG.out,HG.out];exact swap_worldA _ w n 1 blk off D i k (by omega) (by omega)
    ·show _=_;rw[←hO.out,aaz _ _ _ hlt]
   case measure=>first|(simp[aN];done)|(simp[aN];omega)
  ·have aex:¬(i:Int)<(j:Int)-1:=by omega
   have hO2:=hO.out;rw[Uz _ _ _ hlt]at hO2;have gq:=ae hO2;clear hO2 hO
   go_wp2
   go_end0
   exact⟨rfl,n,by first|(rw[←gq.out];done)|(rw[←gq.out];exact hwr)⟩
end Go.Proofs.YtjiehhlghjnfhaaGreatDoor.aC
namespace Go.Proofs.YtjiehhlghjnfhaaGreatDoor.aC
open Go.RowKit Go.Sort Go.Proofs.YtjiehhlghjnfhaaGreatDoor
set_option maxRecDepth 100000 in
theorem PN (blk off cap lo H F:Nat) (d:Array Nat) (w:World) (hH:Holds en w blk off d) (hlo:lo≤H) (hb:F+H≤d.size) (hsz:d.size<2305843009213693952):
 Calls Tryz.prog 240 #[.slice (some ⟨blk,off,none⟩) d.size cap,.int .i64 lo,.int .i64 H,.int .i64 F] w fun e w'=>e=.returned (.tuple #[])∧∃n,w'=putRow en (Sort.ahead w n) blk off (Sort.siftDown aj H F lo d):=by
 go_enter Tryz.func240,Tryz.ntmps240
 go_wp2
 go_loopw [8] (fun vr wr=>∃(r n:Nat) (D:Array Nat),vr=.int .i64 r∧r≤H∧D.size=d.size∧wr=putRow en (Sort.ahead w n) blk off D∧Hid (siftDown aj H F r D=siftDown aj H F lo d)) (fun vr _=>H-(aN vr).toNat)
 case atStart=>exact⟨lo,0,d,rfl,hlo,rfl,(putRow_self _ _ _ _ _ hH).symm,rfl⟩
 case round=>
  obtain⟨r,n,D,rfl,hr,hDs,hwr,hO⟩:=hrel;by_cases he:H≤2*r+1
  ·have rW:(H:Int)≤2*(r:Int)+1:=by omega
   have hO2:=hO.out;rw[sd_end aj D he]at hO2;have gq:=ae hO2;clear hO2 hO
   go_wp2
   go_end0
   exact⟨rfl,n,by first|(rw[←gq.out];done)|(rw[←gq.out];exact hwr)⟩
  ·have rW:¬(H:Int)≤2*(r:Int)+1:=by omega
   obtain⟨c,hc⟩:∃c,2*r+1=c:=⟨_,rfl⟩
   have hcI:2*(r:Int)+1=(c:Int):=by omega
   have hcH:c<H:=by omega
   obtain⟨G,hG⟩:∃G:Nat→Nat,∀t,G t=D[t]! :=⟨fun t=>D[t]!,fun _=>rfl⟩
   have hcw:∀t,t<d.size→wr.cell? ⟨blk,off+t,none⟩=some (en (G t)):=fun t ht=>by
    rw[hwr,hG];exact cell?_putRow _ _ _ _ d D (holds_ahead _ _ _ _ _ _ hH) hDs t (by omega)
   have hfw:∀t,t<d.size→wr.frozen? ⟨blk,off+t,none⟩=false:=fun t ht=>by
    rw[hwr,frozen?_putRow];exact((holds_ahead _ _ n _ _ _ hH) t ht).2
   have HW:=ae hwr;have HG:=ae hG;clear hwr hG hH;by_cases hcc:c+1<H
   ·obtain⟨e,hce⟩:∃e,c+1=e:=⟨_,rfl⟩
    have aey:(c:Int)+1=(e:Int):=by omega
    have QZ:(e:Int)<H:=by omega
    have hdec:decide ((e:Int)<(H:Int))=true:=decide_eq_true QZ
    go_wp2_with fail
    go_quiet (first|(go_at_call 230;refine Calls.quiet_of_same (less _ _ _)))
    obtain⟨n1,rfl⟩:∃n1,n1=nq:=⟨_,rfl⟩
    have hcw2:∀t,t<d.size→(wr.drewN n1).cell? ⟨blk,off+t,none⟩=some (en (G t)):=hcw
    have hfw2:∀t,t<d.size→(wr.drewN n1).frozen? ⟨blk,off+t,none⟩=false:=hfw
    have HW2:Hid (wr.drewN n1=putRow en (Sort.ahead w (n+n1)) blk off D):=by show _=_;rw[HW.out];exact putRow_drewN _ _ _ _ _ _ _
    clear hcw hfw HW;generalize wr.drewN n1=wr2 at hcw2 hfw2 HW2 ⊢;have hFr:(F:Int)+(r:Int)<2305843009213693952:=by omega
    have aez:F+r<d.size:=by omega
    have hGe:G (F+c+1)=G (F+e):=by rw[←hce];rfl
    by_cases hl:aj (G (F+c)) (G (F+c+1))=true
    ·have hl2:aj D[F+(2*r+1)]! D[F+(2*r+2)]! =true:=by rw[←HG.out,←HG.out,hc,show F+(2*r+2)=F+c+1 by omega];exact hl
     have he2:Hid (2*r+2=e):=by show _=_;omega
     have hre:r<e:=by omega
     have hFe:F+e<d.size:=by omega
     have afo:(F:Int)+(e:Int)<2305843009213693952:=by omega
     have heH:e<H:=by omega
     have hd1:2*r+1<H∧2*r+2<H:=by omega
     have HL2:=ae hl2;have HD1:=ae hd1;clear hGe hce hcI hc rW he hdec hl2 hd1 hcc;simp only[hl];clear hl;by_cases h3:aj (G (F+r)) (G (F+e))=true
     ·go_wp2_with fail
      go_quiet (first|(go_at_call 230;refine Calls.quiet_of_same (less _ _ _)))
      go_wp2_with fail
      go_region
      all_goals go_wp2
      go_roundw
      case rel=>
       refine⟨e,n+n1+(nq+1),Sort.swp D (F+r) (F+e),rfl,by omega,by rw[size_swp];exact hDs,?_,?_⟩;rotate_left
       ·show _=_;rw[←hO.out,sd_right_go aj D HD1.out.2 HL2.out (by rw[he2.out,←HG.out,←HG.out];exact h3),he2.out]
       ·rw[HW2.out,HG.out,HG.out];exact swap_worldA _ w (n+n1) _ blk off D (F+r) (F+e) (by omega) (by omega)
      case measure=>first|(simp[aN];done)|(simp[aN];omega)
     ·have h3':aj (G (F+r)) (G (F+e))=false:=by simpa using h3
      have hO2:=hO.out;rw[sd_right_stop aj D HD1.out.2 HL2.out (by rw[he2.out,←HG.out,←HG.out];exact h3')]at hO2;have gq:=ae hO2;clear hO2 hO h3
      go_wp2_with fail
      go_quiet (first|(go_at_call 230;refine Calls.quiet_of_same (less _ _ _)))
      go_wp2
      (try simp only[Exit.inBlock,Exit.then]);refine bodyPost_ret (results_none rfl _ _ _) rfl ?_
      exact⟨rfl,_,by rw[HW2.out,←gq.out];exact putRow_drewN _ _ _ _ _ _ _⟩
    ·have hl0:aj (G (F+c)) (G (F+c+1))=false:=by simpa using hl
     have hl2:aj D[F+(2*r+1)]! D[F+(2*r+2)]! =false:=by rw[←HG.out,←HG.out,hc,show F+(2*r+2)=F+c+1 by omega];exact hl0
     have HL2:=ae hl2;have hd1:2*r+1<H:=by omega
     have HD1:=ae hd1;have hc2:Hid (2*r+1=c):=hc;have hre:r<c:=by omega
     clear hGe hl hce aey hcI hc rW he hdec hl2 hd1 hcc QZ;simp only[hl0];clear hl0;by_cases h3:aj (G (F+r)) (G (F+c))=true
     ·go_wp2_with fail
      go_quiet (first|(go_at_call 230;refine Calls.quiet_of_same (less _ _ _)))
      go_wp2_with fail
      go_region
      all_goals go_wp2
      go_roundw
      case rel=>
       refine⟨c,n+n1+(nq+1),Sort.swp D (F+r) (F+c),rfl,by omega,by rw[size_swp];exact hDs,?_,?_⟩;rotate_left
       ·show _=_;rw[←hO.out,sd_left_go aj D HD1.out (fun _=>HL2.out) (by rw[hc2.out,←HG.out,←HG.out];exact h3),hc2.out]
       ·rw[HW2.out,HG.out,HG.out];exact swap_worldA _ w (n+n1) _ blk off D (F+r) (F+c) (by omega) (by omega)
      case measure=>first|(simp[aN];done)|(simp[aN];omega)
     ·have h3':aj (G (F+r)) (G (F+c))=false:=by simpa using h3
      have hO2:=hO.out;rw[sd_left_stop aj D HD1.out (fun _=>HL2.out) (by rw[hc2.out,←HG.out,←HG.out];exact h3')]at hO2;have gq:=ae hO2;clear hO2 hO h3
      go_wp2_with fail
      go_quiet (first|(go_at_call 230;refine Calls.quiet_of_same (less _ _ _)))
      go_wp2
      (try simp only[Exit.inBlock,Exit.then]);refine bodyPost_ret (results_none rfl _ _ _) rfl ?_
      exact⟨rfl,_,by rw[HW2.out,←gq.out];exact putRow_drewN _ _ _ _ _ _ _⟩
   ·have QZ:¬(c:Int)+1<H:=by omega
    have hdec:decide ((c:Int)+1<(H:Int))=false:=decide_eq_false QZ
    go_wp2_with fail
    go_quiet (first|(go_at_call 230;refine Calls.quiet_of_same (less _ _ _)))
    obtain⟨n1,rfl⟩:∃n1,n1=nq:=⟨_,rfl⟩
    have hcw2:∀t,t<d.size→(wr.drewN n1).cell? ⟨blk,off+t,none⟩=some (en (G t)):=hcw
    have hfw2:∀t,t<d.size→(wr.drewN n1).frozen? ⟨blk,off+t,none⟩=false:=hfw
    have HW2:Hid (wr.drewN n1=putRow en (Sort.ahead w (n+n1)) blk off D):=by show _=_;rw[HW.out];exact putRow_drewN _ _ _ _ _ _ _
    clear hcw hfw HW;generalize wr.drewN n1=wr2 at hcw2 hfw2 HW2 ⊢;have hFr:(F:Int)+(r:Int)<2305843009213693952:=by omega
    have aez:F+r<d.size:=by omega
    by_cases h3:aj (G (F+r)) (G (F+c))=true
    ·go_wp2_with fail
     go_quiet (first|(go_at_call 230;refine Calls.quiet_of_same (less _ _ _)))
     go_wp2_with fail
     go_region
     all_goals go_wp2
     go_roundw
     case rel=>
      refine⟨c,n+n1+(nq+1),Sort.swp D (F+r) (F+c),rfl,by omega,by rw[size_swp];exact hDs,?_,?_⟩;rotate_left
      ·show _=_;rw[←hO.out,sd_left_go aj D (by omega) (fun h=>absurd h (by omega)) (by rw[hc,←HG.out,←HG.out];exact h3),hc]
      ·rw[HW2.out,HG.out,HG.out];exact swap_worldA _ w (n+n1) _ blk off D (F+r) (F+c) (by omega) (by omega)
     case measure=>first|(simp[aN];done)|(simp[aN];omega)
    ·have h3':aj (G (F+r)) (G (F+c))=false:=by simpa using h3
     have hO2:=hO.out;rw[sd_left_stop aj D (by omega) (fun h=>absurd h (by omega)) (by rw[hc,←HG.out,←HG.out];exact h3')]at hO2;have gq:=ae hO2;clear hO2 hO h3
     go_wp2_with fail
     go_quiet (first|(go_at_call 230;refine Calls.quiet_of_same (less _ _ _)))
     go_wp2
     (try simp only[Exit.inBlock,Exit.then]);refine bodyPost_ret (results_none rfl _ _ _) rfl ?_
     exact⟨rfl,_,by rw[HW2.out,←gq.out];exact putRow_drewN _ _ _ _ _ _ _⟩
end Go.Proofs.YtjiehhlghjnfhaaGreatDoor.aC
namespace Go.Proofs.YtjiehhlghjnfhaaGreatDoor.aC
open Go.RowKit Go.Sort Go.Proofs.YtjiehhlghjnfhaaGreatDoor
theorem Fh (H F:Nat):∀(m r:Nat) (d:Array Nat),H-r≤m→(siftDown aj H F r d).size=d.size:=by
 intro m;induction m with
 |zero=>intro r d h;rw[sd_end aj d (by omega)]
 |succ m ih=>
  intro r d h;by_cases h0:H≤2*r+1
  ·rw[sd_end aj d h0]
  ·by_cases hr:2*r+2<H∧aj d[F+(2*r+1)]! d[F+(2*r+2)]! =true
   ·cases h3:aj d[F+r]! d[F+(2*r+2)]! with
    |false=>rw[sd_right_stop aj d hr.1 hr.2 h3]
    |true=>rw[sd_right_go aj d hr.1 hr.2 h3,ih _ _ (by omega),size_swp]
   ·have hl:2*r+2<H→aj d[F+(2*r+1)]! d[F+(2*r+2)]! =false:=fun h=>by
     cases h4:aj d[F+(2*r+1)]! d[F+(2*r+2)]! with
     |false=>rfl
     |true=>exact absurd ⟨h,h4⟩ hr
    cases h3:aj d[F+r]! d[F+(2*r+1)]! with
    |false=>rw[sd_left_stop aj d (by omega) hl h3]
    |true=>rw[sd_left_go aj d (by omega) hl h3,ih _ _ (by omega),size_swp]
end Go.Proofs.YtjiehhlghjnfhaaGreatDoor.aC
namespace Go.Proofs.YtjiehhlghjnfhaaGreatDoor.aC
open Go.RowKit Go.Sort Go.Proofs.YtjiehhlghjnfhaaGreatDoor
set_option maxRecDepth 100000 in
theorem ac2 (blk off cap a b:Nat) (d:Array Nat) (w:World) (hH:Holds en w blk off d) (hab:a≤b) (hb:b≤d.size) (hsz:d.size<2305843009213693952):
 Calls Tryz.prog 225 #[.slice (some ⟨blk,off,none⟩) d.size cap,.int .i64 a,.int .i64 b] w fun e w'=>e=.returned (.tuple #[])∧∃n,w'=putRow en (Sort.ahead w n) blk off (Sort.heapSort aj d a b):=by
 obtain⟨h,hh⟩:∃h,b-a=h:=⟨_,rfl⟩
 have hhI:(b:Int)-(a:Int)=(h:Int):=by omega
 obtain⟨k0,hk0⟩:∃k,(h-1)/2+1=k:=⟨_,rfl⟩
 have hq:((h:Int)-1).tdiv 2=(k0:Int)-1:=by
  by_cases h0:h=0
  ·subst h0;subst hk0;rfl
  ·rw[Int.tdiv_eq_ediv_of_nonneg (by omega)];omega
 have hFH:a+h≤d.size:=by omega
 have HS:Hid (heapPop aj a h (heapBuild aj h a k0 d)=Sort.heapSort aj d a b):=by show _=_;unfold Sort.heapSort;rw[hh,hk0]
 have afp:k0≤h+1:=by omega
 have HD:=ae (fun(lo hi:Nat) (D:Array Nat) (W:World) (h1:Holds en W blk off D) (h2:lo≤hi) (h3:a+hi≤D.size) (h4:D.size=d.size)=>(by have:=PN blk off cap lo hi a D W h1 h2 h3 (by omega);rw[h4]at this;exact this:Calls Tryz.prog 240 #[.slice (some ⟨blk,off,none⟩) d.size cap,.int .i64 lo,.int .i64 hi,.int .i64 a] W fun e w'=>e=.returned (.tuple #[])∧∃n,w'=putRow en (Sort.ahead W n) blk off (Sort.siftDown aj hi a lo D)));have HH:=ae hH;clear hh hk0 hH
 go_enter Tryz.func225,Tryz.ntmps225
 go_wp2_with fail
 go_loopw [9] (fun v wr=>∃(k n:Nat) (D:Array Nat),v=.int .i64 ((k:Int)-1)∧k≤k0∧D.size=d.size∧wr=putRow en (Sort.ahead w n) blk off D∧Hid (heapBuild aj h a k D=heapBuild aj h a k0 d)) (fun v _=>(aN v+1).toNat)
 case atStart=>exact⟨k0,0,d,rfl,by omega,rfl,(putRow_self _ _ _ _ _ HH.out).symm,rfl⟩
 case round=>
  obtain⟨k,n,D,rfl,hk,hDs,hwr,hO⟩:=hrel;have hHr:Holds en wr blk off D:=by rw[hwr];exact holds_putRow _ _ _ _ d D (holds_ahead _ _ _ _ _ _ HH.out) hDs
  have HW:=ae hwr;cases k with
  |succ j=>
   have UB:((j+1:Nat):Int)-1=(j:Int):=by omega
   simp only[UB];have T:=ae (HD.out j h D wr hHr (by omega) (by omega) hDs);clear UB hwr hHr
   go_wp2_with fail
   refine T.out.mono ?_;rintro e w5 ⟨rfl,m,rfl⟩;have hs:(siftDown aj h a j D).size=D.size:=Fh h a _ j D (Nat.le_refl _);have uI:=ae hs
   go_wp2_with fail
   go_roundw
   case rel=>exact⟨j,n+m,siftDown aj h a j D,rfl,by omega,by rw[uI.out];exact hDs,by rw[HW.out];exact putRow_ahead_putRow _ _ _ _ _ _ _ _ uI.out,hO.out⟩
   case measure=>first|(simp[aN];done)|(simp[aN];omega)
  |zero=>
   have hO2:D=heapBuild aj h a k0 d:=hO.out;have gq:=ae hO2;clear hO2 hO hwr hHr;have h01:((0:Nat):Int)-1= -1:=rfl;simp only[h01]
   go_wp2_with fail
   go_loopw [10] (fun v wr=>∃(k n:Nat) (E:Array Nat),v=.int .i64 ((k:Int)-1)∧k≤h∧E.size=d.size∧wr=putRow en (Sort.ahead w n) blk off E∧Hid (heapPop aj a k E=heapPop aj a h D)) (fun v _=>(aN v+1).toNat)
   case atStart=>exact⟨h,n,D,rfl,by omega,hDs,HW.out,rfl⟩
   case round=>
    obtain⟨k,n2,E,rfl,hk,hEs,hwr,hO⟩:=hrel;cases k with
    |zero=>
     have hO2:E=heapPop aj a h D:=hO.out;have pF:=ae hO2;have HW3:=ae hwr;clear hO2 hO hwr
     go_wp2
     go_end0
     exact⟨rfl,n2,by rw[HW3.out,pF.out,gq.out,HS.out]⟩
    |succ j=>
     have UB:((j+1:Nat):Int)-1=(j:Int):=by omega
     simp only[UB];obtain⟨G,hG⟩:∃G:Nat→Nat,∀t,G t=E[t]! :=⟨fun t=>E[t]!,fun _=>rfl⟩
     have hcw:∀t,t<d.size→wr.cell? ⟨blk,off+t,none⟩=some (en (G t)):=fun t ht=>by
      rw[hwr,hG];exact cell?_putRow _ _ _ _ d E (holds_ahead _ _ _ _ _ _ HH.out) hEs t (by omega)
     have hfw:∀t,t<d.size→wr.frozen? ⟨blk,off+t,none⟩=false:=fun t ht=>by
      rw[hwr,frozen?_putRow];exact((holds_ahead _ _ n2 _ _ _ HH.out) t ht).2
     have hws:((wr.drewN 1).setCell ⟨blk,off+a,none⟩ (en (G (a+j)))).setCell ⟨blk,off+(a+j),none⟩ (en (G a))=putRow en (Sort.ahead w (n2+1)) blk off (Sort.swp E a (a+j)):=by
      rw[hwr,hG,hG];exact swap_worldA _ w n2 1 blk off E a (a+j) (by omega) (by omega)
     have hH5:Holds en (putRow en (Sort.ahead w (n2+1)) blk off (Sort.swp E a (a+j))) blk off (Sort.swp E a (a+j)):=holds_putRow _ _ _ _ d _ (holds_ahead _ _ _ _ _ _ HH.out) (by rw[size_swp];exact hEs);have T:=HD.out 0 j (Sort.swp E a (a+j)) _ hH5 (Nat.zero_le _) (by rw[size_swp];omega) (by rw[size_swp];exact hEs);rw[←hws]at T;have UC:=ae hws;have HT:=ae T;have afq:a+j<d.size:=by omega
     clear UB T hws hH5 hwr hG HW;rcases Nat.eq_zero_or_pos j with rfl|hj1
     ·go_wp2_with fail
      go_region
      all_goals go_wp2_with fail
      refine HT.out.mono ?_;rintro e w5 ⟨rfl,m,hw5⟩;rw[UC.out]at hw5;have HW5:=ae hw5;have hs:(siftDown aj 0 a 0 (Sort.swp E a (a+0))).size=E.size:=by rw[Fh 0 a _ 0 _ (Nat.le_refl _),size_swp]
      have uI:=ae hs;clear hw5 hs hcw hfw
      go_wp2_with fail
      go_roundw
      case rel=>exact⟨0,n2+1+m,siftDown aj 0 a 0 (Sort.swp E a (a+0)),rfl,by omega,by rw[uI.out];exact hEs,by rw[HW5.out];exact putRow_ahead_putRow _ _ _ _ _ _ _ _ (by rw[uI.out,size_swp]),hO.out⟩
      case measure=>first|(simp[aN];done)|(simp[aN];omega)
     ·go_wp2_with fail
      go_region
      all_goals go_wp2_with fail
      refine HT.out.mono ?_;rintro e w5 ⟨rfl,m,hw5⟩;rw[UC.out]at hw5;have HW5:=ae hw5;have hs:(siftDown aj j a 0 (Sort.swp E a (a+j))).size=E.size:=by rw[Fh j a _ 0 _ (Nat.le_refl _),size_swp]
      have uI:=ae hs;clear hw5 hs hcw hfw
      go_wp2_with fail
      go_roundw
      case rel=>exact⟨j,n2+1+m,_,rfl,by omega,by rw[uI.out];exact hEs,by rw[HW5.out];exact putRow_ahead_putRow _ _ _ _ _ _ _ _ (by rw[uI.out,size_swp]),hO.out⟩
      case measure=>first|(simp[aN];done)|(simp[aN];omega)
end Go.Proofs.YtjiehhlghjnfhaaGreatDoor.aC
namespace Go.Proofs.YtjiehhlghjnfhaaGreatDoor.aC
open Go.RowKit Go.Sort Go.Proofs.YtjiehhlghjnfhaaGreatDoor
theorem ac3 (x y:Nat) (W:World):Calls Tryz.prog 230 #[en x,en y] W fun e w'=>e=.returned (.bool (aj x y))∧Kp none' W w':=
 (less x y W).mono fun e w' ⟨h1,h2⟩=>⟨h1,h2▸Kp.refl _ _⟩
structure Sw (blk off:Nat) (d:Array Nat) (sb s:Nat) (w W:World):Prop where
 row:Holds en W blk off d
 cnt:ag W sb [.int .i64 (s:Int)] 3
 kp:Kp (fun b=>b=sb) w W
theorem Sw.next {blk off sb s s':Nat} {d:Array Nat} {w W W':World} (h:Sw blk off d sb s w W) (k:Sw blk off d sb s' W W'):Sw blk off d sb s' w W':=⟨k.row,k.cnt,h.kp.trans k.kp⟩
set_option maxRecDepth 100000 in
theorem Fj (blk off cap a b sb s:Nat) (d:Array Nat) (w W:World) (h:Sw blk off d sb s w W) (hne:sb≠blk) (hbl:blk<W.heap.size) (ha:a<d.size) (hb:b<d.size) (hsz:d.size<2305843009213693952) (hs:s<1000):
 Calls Tryz.prog 249 #[.slice (some ⟨blk,off,none⟩) d.size cap,.int .i64 a,.int .i64 b,.pointer (some ⟨sb,0,none⟩)] W fun e w'=>
  e=.returned (.tuple #[.int .i64 ((order2 aj d a b s).1:Nat),.int .i64 ((order2 aj d a b s).2.1:Nat)])∧Sw blk off d sb (order2 aj d a b s).2.2 W w':=by
 obtain⟨G,hG⟩:∃G:Nat→Nat,∀t,G t=d[t]! :=⟨fun t=>d[t]!,fun _=>rfl⟩
 have x0:W.cell? ⟨blk,off+a,none⟩=some (en (G a)):=by rw[hG];exact(h.row a ha).1
 have x1:W.cell? ⟨blk,off+b,none⟩=some (en (G b)):=by rw[hG];exact(h.row b hb).1
 have c0:=h.cnt.cell 0 rfl;have f0:=h.cnt.fz 0;have HS:=ae h;have HL:=ae (fun W=>ac3 (G b) (G a) W);have hai:(a:Int)<d.size:=by omega
 have hbi:(b:Int)<d.size:=by omega
 have ho:order2 aj d a b s=if aj (G b) (G a)then(b,a,s+1)else(a,b,s):=by unfold order2;rw[hG,hG]
 rw[ho];clear h hG ho;cases hl:aj (G b) (G a)with
 |true=>
  rw[hl]at HL;simp only[if_true];clear hl
  go_enter Tryz.func249,Tryz.ntmps249
  go_wp2_with fail
  refine af [] [0,1,2,3,4,5,6,7] 8 (by kernel_rfl) (by kernel_rfl) (fun c a d u w h=>by cases d<;>exact h) ?_;simp only[pick,bn];show aA _ _ _ _ _ _
  repeat((first
   |refine ah (by exact rfl) (by as_aux_lemma=>intro W hK;have e0:=hK.cell x0 (fun x=>x);have e1:=hK.cell x1 (fun x=>x);go_simp;exact rfl) ?_
   |refine ai (by exact rfl) ?_
   |refine au (by exact rfl) (by as_aux_lemma=>intro W;go_simp;exact⟨rfl,rfl⟩) (by intro W hK;with_reducible first|exact HL.out W) ?_);simp only[Act.put,aY])
  show ∀W,_→wpList _ _ _ _ _ _
  intro W2 hK2;have ak:=ae hK2;clear hK2
  go_wp2_with fail
  refine(HL.out W2).mono ?_;rintro e w3 ⟨rfl,k3⟩;have k4:=ak.out.trans k3;have hb3:=HS.out.cnt.kp k4 id;have e0:=hb3.cell 0 rfl;have g0:=hb3.fz 0;have HB3:=ae hb3;have aH:=ae k4;clear k3 k4 hb3 x0 x1 c0 f0
  go_wp2_with fail
  go_ret2
  refine⟨rfl,oQ HS.out.row ?_,?_,(aH.out.mono (T:=fun b=>b=sb) (fun _ _ x=>x.elim)).set (p:=⟨sb,0,none⟩) (.inl rfl) _⟩
  ·exact(Below.heap_setCell _ _ _ _ (fun e=>hne e.symm)).trans (aH.out.block blk hbl id)
  ·exact HB3.out.set 0 _
 |false=>
  rw[hl]at HL;simp only[Bool.false_eq_true,if_false];clear hl
  go_enter Tryz.func249,Tryz.ntmps249
  go_wp2_with fail
  refine af [] [0,1,2,3,4,5,6,7] 8 (by kernel_rfl) (by kernel_rfl) (fun c a d u w h=>by cases d<;>exact h) ?_;simp only[pick,bn];show aA _ _ _ _ _ _
  repeat((first
   |refine ah (by exact rfl) (by as_aux_lemma=>intro W hK;have e0:=hK.cell x0 (fun x=>x);have e1:=hK.cell x1 (fun x=>x);go_simp;exact rfl) ?_
   |refine ai (by exact rfl) ?_
   |refine au (by exact rfl) (by as_aux_lemma=>intro W;go_simp;exact⟨rfl,rfl⟩) (by intro W hK;with_reducible first|exact HL.out W) ?_);simp only[Act.put,aY])
  show ∀W,_→wpList _ _ _ _ _ _
  intro W2 hK2;have ak:=ae hK2;clear hK2
  go_wp2_with fail
  refine(HL.out W2).mono ?_;rintro e w3 ⟨rfl,k3⟩;have k4:=ak.out.trans k3;have aH:=ae k4;clear k3 k4 x0 x1 c0 f0
  go_wp2_with fail
  go_ret2
  exact⟨rfl,oQ HS.out.row (aH.out.block blk hbl id),HS.out.cnt.kp aH.out id,aH.out.mono (fun _ _ x=>x.elim)⟩
theorem order2_lt {d:Array Nat} {a b s n:Nat} (ha:a<n) (hb:b<n):(order2 aj d a b s).1<n∧(order2 aj d a b s).2.1<n∧(order2 aj d a b s).2.2≤s+1:=by
 unfold order2;split<;>simp only<;>omega
set_option maxRecDepth 100000 in
theorem Fq (blk off cap a b c sb s:Nat) (d:Array Nat) (w W:World) (h:Sw blk off d sb s w W) (hne:sb≠blk) (hbl:blk<W.heap.size) (ha:a<d.size) (hb:b<d.size) (hc:c<d.size) (hsz:d.size<2305843009213693952) (hs:s<900):
 Calls Tryz.prog 244 #[.slice (some ⟨blk,off,none⟩) d.size cap,.int .i64 a,.int .i64 b,.int .i64 c,.pointer (some ⟨sb,0,none⟩)] W fun e w'=>
  e=.returned (.int .i64 ((median aj d a b c s).1:Nat))∧Sw blk off d sb (median aj d a b c s).2 W w':=by
 obtain⟨⟨a1,b1,s1⟩,h1⟩:∃r,order2 aj d a b s=r:=⟨_,rfl⟩
 have l1:=order2_lt (d:=d) (s:=s) ha hb;obtain⟨⟨b2,c2,s2⟩,h2⟩:∃r,order2 aj d b1 c s1=r:=⟨_,rfl⟩
 rw[h1]at l1;simp only at l1;have l2:=order2_lt (d:=d) (s:=s1) l1.2.1 hc;obtain⟨⟨a3,b3,s3⟩,h3⟩:∃r,order2 aj d a1 b2 s2=r:=⟨_,rfl⟩
 rw[h2]at l2;simp only at l2;have l3:=order2_lt (d:=d) (s:=s2) l1.1 l2.1;rw[h3]at l3;simp only at l3;have hm:median aj d a b c s=(b3,s3):=by unfold median;simp only[h1,h2,h3]
 rw[hm];have C1:=Fj blk off cap a b sb s d w W h hne hbl ha hb hsz (by omega);rw[h1]at C1;have C2:=fun W' (hS:Sw blk off d sb s1 W W')=>Fj blk off cap b1 c sb s1 d W W' hS hne (Nat.lt_of_lt_of_le hbl hS.kp.size) l1.2.1 hc hsz (by omega)
 simp only[h2]at C2;have C3:=fun W' (hS:Sw blk off d sb s2 W W')=>Fj blk off cap a1 b2 sb s2 d W W' hS hne (Nat.lt_of_lt_of_le hbl hS.kp.size) l1.1 l2.1 hsz (by omega)
 simp only[h3]at C3;have HC1:=ae C1;have HC2:=ae C2;have MW:=ae C3;clear h1 h2 h3 hm C1 C2 C3 h l1 l2 l3
 go_enter Tryz.func244,Tryz.ntmps244
 go_wp2_with fail
 refine(HC1.out).mono ?_;rintro e w1 ⟨rfl,q1⟩;have Q1:=ae q1;clear q1
 go_wp2_with fail
 refine(HC2.out _ Q1.out).mono ?_;rintro e w2 ⟨rfl,q2⟩;have Q2:=ae (Q1.out.next q2);clear q2
 go_wp2_with fail
 refine(MW.out _ Q2.out).mono ?_;rintro e w3 ⟨rfl,q3⟩;have Q3:=ae (Q2.out.next q3);clear q3
 go_wp2_with fail
 go_ret
 exact⟨rfl,Q3.out⟩
theorem PO {d:Array Nat} {a b c s n:Nat} (ha:a<n) (hb:b<n) (hc:c<n):(median aj d a b c s).1<n∧(median aj d a b c s).2≤s+3:=by
 unfold median;have l1:=order2_lt (d:=d) (s:=s) ha hb;have l2:=order2_lt (d:=d) (s:=(order2 aj d a b s).2.2) l1.2.1 hc;have l3:=order2_lt (d:=d) (s:=(order2 aj d (order2 aj d a b s).2.1 c (order2 aj d a b s).2.2).2.2) l1.1 l2.1;simp only;exact⟨l3.2.1,by omega⟩
theorem yY (blk off cap a sb s:Nat) (d:Array Nat) (w W:World) (h:Sw blk off d sb s w W) (hne:sb≠blk) (hbl:blk<W.heap.size) (h1:1≤a) (ha:a+1<d.size) (hsz:d.size<2305843009213693952) (hs:s<900):
 Calls Tryz.prog 243 #[.slice (some ⟨blk,off,none⟩) d.size cap,.int .i64 a,.pointer (some ⟨sb,0,none⟩)] W fun e w'=>
  e=.returned (.int .i64 ((medianAdjacent aj d a s).1:Nat))∧Sw blk off d sb (medianAdjacent aj d a s).2 W w':=by
 have C:=Fq blk off cap (a-1) a (a+1) sb s d w W h hne hbl (by omega) (by omega) ha hsz hs;rw[show((a-1:Nat):Int)=(a:Int)-1 by omega,show((a+1:Nat):Int)=(a:Int)+1 by omega]at C;have HC:=ae C;unfold medianAdjacent;clear C h
 go_enter Tryz.func243,Tryz.ntmps243
 go_wp2_with fail
 refine(HC.out).mono ?_;rintro e w1 ⟨rfl,q1⟩;have Q1:=ae q1;clear q1
 go_wp2_with fail
 go_ret
 exact⟨rfl,Q1.out⟩
end Go.Proofs.YtjiehhlghjnfhaaGreatDoor.aC
namespace Go.Proofs.YtjiehhlghjnfhaaGreatDoor.aC
open Go.RowKit Go.Sort Go.Proofs.YtjiehhlghjnfhaaGreatDoor
def yZ:Hint→Int| .unknown=>0| .increasing=>1| .decreasing=>2
theorem uS {d:Array Nat} {a s n:Nat} (h1:1≤a) (ha:a+1<n):(medianAdjacent aj d a s).1<n∧(medianAdjacent aj d a s).2≤s+3:=by
 unfold medianAdjacent;exact PO (by omega) (by omega) ha
set_option maxRecDepth 100000 in
theorem Gl (blk off cap a b:Nat) (d:Array Nat) (w:World) (hH:Holds en w blk off d) (hbl:blk<w.heap.size) (h12:12<b-a) (hb:b≤d.size) (hsz:d.size<2305843009213693952):
 Calls Tryz.prog 227 #[.slice (some ⟨blk,off,none⟩) d.size cap,.int .i64 a,.int .i64 b] w fun e w'=>
  e=.returned (.tuple #[.int .i64 ((choosePivot aj d a b).1:Nat),.int .i64 (yZ (choosePivot aj d a b).2)])∧Kp none' w w':=by
 obtain⟨l,hl⟩:∃l,b-a=l:=⟨_,rfl⟩
 have hlI:(b:Int)-(a:Int)=(l:Int):=by omega
 obtain⟨q,hq⟩:∃q,l/4=q:=⟨_,rfl⟩
 have hqI:(l:Int).tdiv 4=(q:Int):=by rw[Int.tdiv_eq_ediv_of_nonneg (by omega)];omega
 have hq3:3≤q:=by omega
 have UD:a+q*3+1<d.size:=by omega
 obtain⟨i,hi⟩:∃i,a+q=i:=⟨_,rfl⟩
 obtain⟨j,hj⟩:∃j,a+q*2=j:=⟨_,rfl⟩
 obtain⟨k,hk⟩:∃k,a+q*3=k:=⟨_,rfl⟩
 have hiI:(a:Int)+(q:Int)=(i:Int):=by omega
 have UB:(a:Int)+(q:Int)*2=(j:Int):=by omega
 have hkI:(a:Int)+(q:Int)*3=(k:Int):=by omega
 have hcell:=(Kp.refl none' w).alloc (.cells #[.int .i64 0] 3);have hsw:Sw blk off d w.heap.size 0 (w.alloc (.cells #[.int .i64 0] 3)) (w.alloc (.cells #[.int .i64 0] 3)):=⟨oQ hH (hcell.block blk hbl id),ag.new w _ _,Kp.refl _ _⟩;have uZ:=ae hsw;have uo:=ae hcell;have hne:w.heap.size≠blk:=by omega
 have Ee:blk<(w.alloc (.cells #[.int .i64 0] 3)).heap.size:=by simp;omega
 have hqm:(q:Int)≤2305843009213693952:=by omega
 have Q7:choosePivot aj d a b=(let r:Nat×Nat:=if l≥50 then median aj d (medianAdjacent aj d i 0).1 (medianAdjacent aj d j (medianAdjacent aj d i 0).2).1 (medianAdjacent aj d k (medianAdjacent aj d j (medianAdjacent aj d i 0).2).2).1 (medianAdjacent aj d k (medianAdjacent aj d j (medianAdjacent aj d i 0).2).2).2 else median aj d i j k 0
  (r.1,if r.2=0 then .increasing else if r.2=12 then .decreasing else .unknown)):=by
  unfold choosePivot;simp only[hl,hq,Nat.mul_one,hi,hj,hk];rw[if_pos (by omega)]
 by_cases h50:50≤l
 ·have aeA:(50:Int)≤(l:Int):=by omega
  obtain⟨⟨i1,s1⟩,h1⟩:∃r,medianAdjacent aj d i 0=r:=⟨_,rfl⟩
  have l1:=uS (d:=d) (a:=i) (s:=0) (n:=d.size) (by omega) (by omega);rw[h1]at l1;simp only at l1;obtain⟨⟨j1,s2⟩,h2⟩:∃r,medianAdjacent aj d j s1=r:=⟨_,rfl⟩
  have l2:=uS (d:=d) (a:=j) (s:=s1) (n:=d.size) (by omega) (by omega);rw[h2]at l2;simp only at l2;obtain⟨⟨k1,s3⟩,h3⟩:∃r,medianAdjacent aj d k s2=r:=⟨_,rfl⟩
  have l3:=uS (d:=d) (a:=k) (s:=s2) (n:=d.size) (by omega) (by omega);rw[h3]at l3;simp only at l3;obtain⟨⟨jF,sF⟩,h4⟩:∃r,median aj d i1 j1 k1 s3=r:=⟨_,rfl⟩
  have hcp:choosePivot aj d a b=(jF,if sF=0 then .increasing else if sF=12 then .decreasing else .unknown):=by
   rw[Q7,if_pos h50];simp only[h1,h2,h3,h4]
  have C1:=yY blk off cap i w.heap.size 0 d _ _ hsw hne Ee (by omega) (by omega) hsz (by omega);rw[h1]at C1;have C2:=fun W' (hS:Sw blk off d w.heap.size s1 (w.alloc (.cells #[.int .i64 0] 3)) W')=>yY blk off cap j w.heap.size s1 d _ W' hS hne (Nat.lt_of_lt_of_le Ee hS.kp.size) (by omega) (by omega) hsz (by omega)
  simp only[h2]at C2;have C3:=fun W' (hS:Sw blk off d w.heap.size s2 (w.alloc (.cells #[.int .i64 0] 3)) W')=>yY blk off cap k w.heap.size s2 d _ W' hS hne (Nat.lt_of_lt_of_le Ee hS.kp.size) (by omega) (by omega) hsz (by omega)
  simp only[h3]at C3;have C4:=fun W' (hS:Sw blk off d w.heap.size s3 (w.alloc (.cells #[.int .i64 0] 3)) W')=>Fq blk off cap i1 j1 k1 w.heap.size s3 d _ W' hS hne (Nat.lt_of_lt_of_le Ee hS.kp.size) l1.1 l2.1 l3.1 hsz (by omega)
  simp only[h4]at C4;have HC1:=ae C1;have HC2:=ae C2;have MW:=ae C3;have uO:=ae C4;have HCP:=ae hcp;clear h1 h2 h3 h4 C1 C2 C3 C4 hcp Q7 hsw hcell hH hi hj hk hq hl l1 l2 l3 h50
  go_enter Tryz.func227,Tryz.ntmps227
  go_wp2_with fail
  refine(HC1.out).mono ?_;rintro e w1 ⟨rfl,q1⟩;have Q1:=ae q1;clear q1
  go_wp2_with fail
  refine(HC2.out _ Q1.out).mono ?_;rintro e w2 ⟨rfl,q2⟩;have Q2:=ae (Q1.out.next q2);clear q2
  go_wp2_with fail
  refine(MW.out _ Q2.out).mono ?_;rintro e w3 ⟨rfl,q3⟩;have Q3:=ae (Q2.out.next q3);clear q3
  go_wp2_with fail
  refine(uO.out _ Q3.out).mono ?_;rintro e w4 ⟨rfl,q4⟩;have q5:=Q3.out.next q4;have c0:=q5.cnt.cell 0 rfl;have QK:Hid (Kp none' w w4):=uo.out.then q5.kp (fun i hi x=>by omega)
  have hcp:=HCP.out;clear q4 q5;by_cases hs0:sF=0
  ·subst hs0;have HR:Hid (choosePivot aj d a b=(jF,.increasing)):=by show _=_;rw[hcp];rfl
   clear hcp
   go_wp2_with fail
   go_ret2
   exact⟨by rw[HR.out];rfl,QK.out⟩
  ·have hsb:((sF:Int)==0)=false:=by rw[beq_eq_false_iff_ne];omega
   by_cases Fv:sF=12
   ·subst Fv;have HR:Hid (choosePivot aj d a b=(jF,.decreasing)):=by show _=_;rw[hcp];rfl
    clear hcp hs0
    go_wp2_with fail
    go_ret2
    exact⟨by rw[HR.out];rfl,QK.out⟩
   ·have ac4:((sF:Int)==12)=false:=by rw[beq_eq_false_iff_ne];omega
    have HR:Hid (choosePivot aj d a b=(jF,.unknown)):=by show _=_;rw[hcp,if_neg hs0,if_neg Fv]
    clear hcp hs0 Fv
    go_wp2_with fail
    go_ret2
    exact⟨by rw[HR.out];rfl,QK.out⟩
 ·have aeA:(l:Int)<50:=by omega
  obtain⟨⟨jF,sF⟩,h4⟩:∃r,median aj d i j k 0=r:=⟨_,rfl⟩
  have hcp:choosePivot aj d a b=(jF,if sF=0 then .increasing else if sF=12 then .decreasing else .unknown):=by
   rw[Q7,if_neg h50];simp only[h4]
  have C4:=Fq blk off cap i j k w.heap.size 0 d _ _ hsw hne Ee (by omega) (by omega) (by omega) hsz (by omega);rw[h4]at C4;have uO:=ae C4;have HCP:=ae hcp;clear h4 C4 hcp Q7 hsw hcell hH hi hj hk hq hl h50
  go_enter Tryz.func227,Tryz.ntmps227
  go_wp2_with fail
  refine(uO.out).mono ?_;rintro e w4 ⟨rfl,q5⟩;have c0:=q5.cnt.cell 0 rfl;have QK:Hid (Kp none' w w4):=uo.out.then q5.kp (fun i hi x=>by omega)
  have hcp:=HCP.out;clear q5;by_cases hs0:sF=0
  ·subst hs0;have HR:Hid (choosePivot aj d a b=(jF,.increasing)):=by show _=_;rw[hcp];rfl
   clear hcp
   go_wp2_with fail
   go_ret2
   exact⟨by rw[HR.out];rfl,QK.out⟩
  ·have hsb:((sF:Int)==0)=false:=by rw[beq_eq_false_iff_ne];omega
   by_cases Fv:sF=12
   ·subst Fv;have HR:Hid (choosePivot aj d a b=(jF,.decreasing)):=by show _=_;rw[hcp];rfl
    clear hcp hs0
    go_wp2_with fail
    go_ret2
    exact⟨by rw[HR.out];rfl,QK.out⟩
   ·have ac4:((sF:Int)==12)=false:=by rw[beq_eq_false_iff_ne];omega
    have HR:Hid (choosePivot aj d a b=(jF,.unknown)):=by show _=_;rw[hcp,if_neg hs0,if_neg Fv]
    clear hcp hs0 Fv
    go_wp2_with fail
    go_ret2
    exact⟨by rw[HR.out];rfl,QK.out⟩
end Go.Proofs.YtjiehhlghjnfhaaGreatDoor.aC
namespace Go.Proofs.YtjiehhlghjnfhaaGreatDoor.aC
open Go.RowKit Go.Sort Go.Proofs.YtjiehhlghjnfhaaGreatDoor
set_option maxRecDepth 100000 in
theorem UE (blk off cap a b:Nat) (d:Array Nat) (w:World) (hH:Holds en w blk off d) (hab:a<b) (hb:b≤d.size) (hsz:d.size<4611686018427387904):
 Calls Tryz.prog 229 #[.slice (some ⟨blk,off,none⟩) d.size cap,.int .i64 a,.int .i64 b] w fun e w'=>
  e=.returned (.bool (Sort.partialInsertionSort aj d a b).2)∧∃n,w'=putRow en (Sort.ahead w n) blk off (Sort.partialInsertionSort aj d a b).1:=by
 have HH:=ae hH;have HST:Hid (w=putRow en (Sort.ahead w 0) blk off d):=(putRow_self _ _ _ _ _ hH).symm;clear hH
 go_enter Tryz.func229,Tryz.ntmps229
 go_wp2
 go_loopw [7,8] (fun vi vs wr=>∃(i s n:Nat) (dk:Array Nat),vi=.int .i64 i∧vs=.int .i64 s∧s≤5∧a<i∧i≤b∧dk.size=d.size∧wr=putRow en (Sort.ahead w n) blk off dk∧
  Hid (partialIns aj a b (5-s) i dk=partialIns aj a b 5 (a+1) d)) (fun _ vs _=>5-(aN vs).toNat)
 case atStart=>exact⟨a+1,0,0,d,by go_num,rfl,by omega,by omega,by omega,rfl,HST.out,rfl⟩
 case round=>
  obtain⟨i,s,n,dk,rfl,rfl,hs5,hai,hib,hsk,hwr,hO⟩:=hrel;by_cases hs:s<5
  ·have hsi:(s:Int)<5:=by omega
   have JE:=ae hwr;clear hwr
   go_wp2
   go_loopw [7] (fun vi wr2=>∃(k m:Nat),vi=.int .i64 k∧i≤k∧k≤b∧wr2=putRow en (Sort.ahead w m) blk off dk∧Hid (scanSorted aj dk b k=scanSorted aj dk b i)) (fun vi _=>b-(aN vi).toNat)
   case atStart=>exact⟨i,n,rfl,Nat.le_refl _,hib,JE.out,rfl⟩
   case round=>
    obtain⟨k,m,rfl,hik,hkb,hw2,hS⟩:=hrel;obtain⟨G,hG⟩:∃G:Nat→Nat,∀t,G t=dk[t]! :=⟨fun t=>dk[t]!,fun _=>rfl⟩
    have hcw:∀t,t<d.size→wr.cell? ⟨blk,off+t,none⟩=some (en (G t)):=fun t ht=>by
     rw[hw2,hG];exact cell?_putRow _ _ _ _ d dk (holds_ahead _ _ _ _ _ _ HH.out) hsk t (by omega)
    have hfw:∀t,t<d.size→wr.frozen? ⟨blk,off+t,none⟩=false:=fun t ht=>by
     rw[hw2,frozen?_putRow];exact((holds_ahead _ _ m _ _ _ HH.out) t ht).2
    have HW:=ae hw2;have HG:=ae hG;clear hw2 hG;by_cases hkb':k<b
    ·have aeB:(k:Int)<b:=by omega
     cases hl:aj (G k) (G (k-1))with
     |false=>
      go_wp2
      go_quiet (first|(go_at_call 230;refine Calls.quiet_of_same (less _ _ _)))
      go_wp2
      go_roundw
      case rel=>
       refine⟨k+1,m+nq,by go_num,by omega,by omega,by rw[HW.out];exact putRow_drewN _ _ _ _ _ _ _,?_⟩;show _=_;rw[←hS.out,scanSorted_go aj dk b k hkb' (by rw[←HG.out,←HG.out];exact hl)]
      case measure=>first|(simp[aN];done)|(simp[aN];omega)
     |true=>
      have HK:Hid (scanSorted aj dk b i=k):=by
       show _=_;rw[←hS.out,scanSorted_stop aj dk b k (Or.inr (by rw[←HG.out,←HG.out];exact hl))]
      have hkne:((k:Int)==b)=false:=by rw[beq_eq_false_iff_ne];omega
      by_cases h50:b-a<50
      ·have aeC:(b:Int)-a<50:=by omega
       have hv:Sort.partialInsertionSort aj d a b=(dk,false):=by
        unfold Sort.partialInsertionSort;rw[←hO.out,pi_short aj a b s i dk hs (by rw[HK.out];omega) h50]
       have HV:=ae hv;clear hv
       go_wp2
       go_quiet (first|(go_at_call 230;refine Calls.quiet_of_same (less _ _ _)))
       go_wp2
       go_ret
       exact⟨by rw[HV.out];rfl,m+nq,by rw[HV.out,HW.out];exact putRow_drewN _ _ _ _ _ _ _⟩
      ·have aeC:¬(b:Int)-a<50:=by omega
       go_wp2
       go_quiet (first|(go_at_call 230;refine Calls.quiet_of_same (less _ _ _)))
       go_wp2
       go_region
       have hsw:((wr.drewN (nq+1)).setCell ⟨blk,off+k,none⟩ (en (G (k-1)))).setCell ⟨blk,off+(k-1),none⟩ (en (G k))=putRow en (Sort.ahead w (m+(nq+1))) blk off (Sort.swp dk k (k-1)):=by
        rw[HW.out,HG.out,HG.out];exact swap_worldA _ w m (nq+1) blk off dk k (k-1) (by omega) (by omega)
       have hs1:(Sort.swp dk k (k-1)).size=d.size:=by rw[size_swp];exact hsk
       by_cases hka:2≤k-a
       ·have XZ:(2:Int)≤(k:Int)-a:=by omega
        have uZ:=ae hsw;clear hsw hl
        go_wp2
        rw[uZ.out];generalize hw0:putRow en (Sort.ahead w (m+(nq+1))) blk off (Sort.swp dk k (k-1))=w0;have HW0:=ae hw0.symm;clear hw0 uZ hcw hfw HW HG
        go_loopw [9] (fun vj wr2=>∃(j m2:Nat) (dj:Array Nat),vj=.int .i64 j∧j≤k-1∧dj.size=d.size∧wr2=putRow en (Sort.ahead w m2) blk off dj∧
             Hid (shiftDown aj j dj=shiftDown aj (k-1) (Sort.swp dk k (k-1)))) (fun vj _=>(aN vj).toNat)
        case atStart=>exact⟨k-1,_,Sort.swp dk k (k-1),by congr 1;omega,Nat.le_refl _,hs1,HW0.out,rfl⟩
        case round=>
         obtain⟨j,m2,dj,rfl,hjk,hsj,hw2,hDn⟩:=hrel;have HW2:=ae hw2;by_cases hj1:1≤j
         ·have aeD:(1:Int)≤(j:Int):=by omega
          obtain⟨G,hG⟩:∃G:Nat→Nat,∀t,G t=dj[t]! :=⟨fun t=>dj[t]!,fun _=>rfl⟩
          have hcw:∀t,t<d.size→wr.cell? ⟨blk,off+t,none⟩=some (en (G t)):=fun t ht=>by
           rw[hw2,hG];exact cell?_putRow _ _ _ _ d dj (holds_ahead _ _ _ _ _ _ HH.out) hsj t (by omega)
          have hfw:∀t,t<d.size→wr.frozen? ⟨blk,off+t,none⟩=false:=fun t ht=>by
           rw[hw2,frozen?_putRow];exact((holds_ahead _ _ m2 _ _ _ HH.out) t ht).2
          have HG:=ae hG;clear hw2 hG;cases hl:aj (G j) (G (j-1))with
          |true=>
           go_wp2
           go_quiet (first|(go_at_call 230;refine Calls.quiet_of_same (less _ _ _)))
           go_wp2
           go_region
           all_goals go_wp2
           go_roundw
           case rel=>
            refine⟨j-1,m2+(nq+1),Sort.swp dj j (j-1),by congr 1;omega,by omega,by rw[size_swp];exact hsj,?_,?_⟩
            ·rw[HW2.out,HG.out,HG.out];exact swap_worldA _ w m2 (nq+1) blk off dj j (j-1) (by omega) (by omega)
            ·show _=_;rw[←hDn.out,shiftDown_go aj j dj (by omega) (by rw[←HG.out,←HG.out];exact hl)]
           case measure=>first|(simp[aN];done)|(simp[aN];omega)
          |false=>
           have HD:Hid (fixDown aj a k (Sort.swp dk k (k-1))=dj):=by
            show _=_;unfold fixDown;rw[if_pos hka,←hDn.out,shiftDown_stop aj j dj (Or.inr (by rw[←HG.out,←HG.out];exact hl))]
           go_wp2
           go_quiet (first|(go_at_call 230;refine Calls.quiet_of_same (less _ _ _)))
           have JF:=hsj;obtain⟨dC,MX⟩:∃dC,dC=dj:=⟨_,rfl⟩
           subst MX;obtain⟨mC,Fz⟩:∃mC,Hid (wr.drewN nq=putRow en (Sort.ahead w mC) blk off dC):=⟨m2+nq,by show _=_;rw[HW2.out];exact putRow_drewN _ _ _ _ _ _ _⟩
           clear HW2 hDn hjk XZ HW0;by_cases hb2:2≤b-k
           ·have MZ:(2:Int)≤(b:Int)-(k:Int):=by omega
            go_wp2
            rw[Fz.out];generalize M_:putRow en (Sort.ahead w mC) blk off dC=wC;have X0:Hid (wC=putRow en (Sort.ahead w mC) blk off dC):=M_.symm;clear M_ Fz
            go_loopw [10] (fun vj wr2=>∃(j m3:Nat) (du:Array Nat),vj=.int .i64 j∧k+1≤j∧j≤b∧du.size=d.size∧wr2=putRow en (Sort.ahead w m3) blk off du∧Hid (shiftUp aj b j du=shiftUp aj b (k+1) dC)) (fun vj _=>b-(aN vj).toNat)
            case atStart=>exact⟨k+1,mC,dC,by go_num,Nat.le_refl _,by omega,JF,X0.out,rfl⟩
            case round=>
             obtain⟨j,m3,du,rfl,hkj,hjb,hsu,hw3,hU⟩:=hrel;have HW3:=ae hw3;by_cases hjlt:j<b
             ·have FC:(j:Int)<b:=by omega
              obtain⟨G,hG⟩:∃G:Nat→Nat,∀t,G t=du[t]! :=⟨fun t=>du[t]!,fun _=>rfl⟩
              have hcw:∀t,t<d.size→wr.cell? ⟨blk,off+t,none⟩=some (en (G t)):=fun t ht=>by
               rw[hw3,hG];exact cell?_putRow _ _ _ _ d du (holds_ahead _ _ _ _ _ _ HH.out) hsu t (by omega)
              have hfw:∀t,t<d.size→wr.frozen? ⟨blk,off+t,none⟩=false:=fun t ht=>by
               rw[hw3,frozen?_putRow];exact((holds_ahead _ _ m3 _ _ _ HH.out) t ht).2
              have HW:=ae hw3;have HG:=ae hG;clear hw3 hG;cases hl:aj (G j) (G (j-1))with
              |true=>
               go_wp2
               go_quiet (first|(go_at_call 230;refine Calls.quiet_of_same (less _ _ _)))
               go_wp2
               go_region
               all_goals go_wp2
               go_roundw
               case rel=>
                refine⟨j+1,m3+(nq+1),Sort.swp du j (j-1),by go_num,by omega,by omega,by rw[size_swp];exact hsu,?_,?_⟩
                ·rw[HW.out,HG.out,HG.out];exact swap_worldA _ w m3 (nq+1) blk off du j (j-1) (by omega) (by omega)
                ·show _=_;rw[←hU.out,shiftUp_go aj b j du (by omega) (by rw[←HG.out,←HG.out];exact hl)]
               case measure=>first|(simp[aN];done)|(simp[aN];omega)
              |false=>
               have oJ:Hid (fixUp aj b k dC=du):=by
                show _=_;unfold fixUp;rw[if_pos hb2,←hU.out,shiftUp_stop aj b j du (Or.inr (by rw[←HG.out,←HG.out];exact hl))]
               go_wp2
               go_quiet (first|(go_at_call 230;refine Calls.quiet_of_same (less _ _ _)))
               go_wp2
               go_roundw
               case rel=>
                refine⟨k,s+1,m3+nq,du,rfl,by go_num,by omega,by omega,by omega,hsu,by rw[HW.out];exact putRow_drewN _ _ _ _ _ _ _,?_⟩;show _=_;rw[←hO.out,pi_go aj a b s i k dk hs HK.out (by omega) (by omega),HD.out,oJ.out]
               case measure=>first|(simp[aN];done)|(simp[aN];omega)
             ·have FC:¬(j:Int)<b:=by omega
              clear hw3;have oJ:Hid (fixUp aj b k dC=du):=by
               show _=_;unfold fixUp;rw[if_pos hb2,←hU.out,shiftUp_stop aj b j du (Or.inl hjlt)]
              go_wp2
              go_roundw
              case rel=>
               refine⟨k,s+1,m3,du,rfl,by go_num,by omega,by omega,by omega,hsu,HW3.out,?_⟩;show _=_;rw[←hO.out,pi_go aj a b s i k dk hs HK.out (by omega) (by omega),HD.out,oJ.out]
              case measure=>first|(simp[aN];done)|(simp[aN];omega)
           ·have MZ:¬(2:Int)≤(b:Int)-(k:Int):=by omega
            have oJ:Hid (fixUp aj b k dC=dC):=by show _=_;unfold fixUp;rw[if_neg (by omega)]
            go_wp2
            go_roundw
            case rel=>
             refine⟨k,s+1,mC,dC,rfl,by go_num,by omega,by omega,by omega,JF,Fz.out,?_⟩;show _=_;rw[←hO.out,pi_go aj a b s i k dk hs HK.out (by omega) (by omega),HD.out,oJ.out]
            case measure=>first|(simp[aN];done)|(simp[aN];omega)
         ·have aeD:¬(1:Int)≤(j:Int):=by omega
          have HD:Hid (fixDown aj a k (Sort.swp dk k (k-1))=dj):=by
           show _=_;unfold fixDown;rw[if_pos hka,←hDn.out,shiftDown_stop aj j dj (Or.inl (by omega))]
          have JF:=hsj;obtain⟨dC,MX⟩:∃dC,dC=dj:=⟨_,rfl⟩
          subst MX;obtain⟨mC,Fz⟩:∃mC,Hid (wr=putRow en (Sort.ahead w mC) blk off dC):=⟨m2,HW2.out⟩
          clear hw2 HW2 hDn hjk XZ HW0;by_cases hb2:2≤b-k
          ·have MZ:(2:Int)≤(b:Int)-(k:Int):=by omega
           go_wp2
           rw[Fz.out];generalize M_:putRow en (Sort.ahead w mC) blk off dC=wC;have X0:Hid (wC=putRow en (Sort.ahead w mC) blk off dC):=M_.symm;clear M_ Fz
           go_loopw [10] (fun vj wr2=>∃(j m3:Nat) (du:Array Nat),vj=.int .i64 j∧k+1≤j∧j≤b∧du.size=d.size∧wr2=putRow en (Sort.ahead w m3) blk off du∧Hid (shiftUp aj b j du=shiftUp aj b (k+1) dC)) (fun vj _=>b-(aN vj).toNat)
           case atStart=>exact⟨k+1,mC,dC,by go_num,Nat.le_refl _,by omega,JF,X0.out,rfl⟩
           case round=>
            obtain⟨j,m3,du,rfl,hkj,hjb,hsu,hw3,hU⟩:=hrel;have HW3:=ae hw3;by_cases hjlt:j<b
            ·have FC:(j:Int)<b:=by omega
             obtain⟨G,hG⟩:∃G:Nat→Nat,∀t,G t=du[t]! :=⟨fun t=>du[t]!,fun _=>rfl⟩
             have hcw:∀t,t<d.size→wr.cell? ⟨blk,off+t,none⟩=some (en (G t)):=fun t ht=>by
              rw[hw3,hG];exact cell?_putRow _ _ _ _ d du (holds_ahead _ _ _ _ _ _ HH.out) hsu t (by omega)
             have hfw:∀t,t<d.size→wr.frozen? ⟨blk,off+t,none⟩=false:=fun t ht=>by
              rw[hw3,frozen?_putRow];exact((holds_ahead _ _ m3 _ _ _ HH.out) t ht).2
             have HW:=ae hw3;have HG:=ae hG;clear hw3 hG;cases hl:aj (G j) (G (j-1))with
             |true=>
              go_wp2
              go_quiet (first|(go_at_call 230;refine Calls.quiet_of_same (less _ _ _)))
              go_wp2
              go_region
              all_goals go_wp2
              go_roundw
              case rel=>
               refine⟨j+1,m3+(nq+1),Sort.swp du j (j-1),by go_num,by omega,by omega,by rw[size_swp];exact hsu,?_,?_⟩
               ·rw[HW.out,HG.out,HG.out];exact swap_worldA _ w m3 (nq+1) blk off du j (j-1) (by omega) (by omega)
               ·show _=_;rw[←hU.out,shiftUp_go aj b j du (by omega) (by rw[←HG.out,←HG.out];exact hl)]
              case measure=>first|(simp[aN];done)|(simp[aN];omega)
             |false=>
              have oJ:Hid (fixUp aj b k dC=du):=by
               show _=_;unfold fixUp;rw[if_pos hb2,←hU.out,shiftUp_stop aj b j du (Or.inr (by rw[←HG.out,←HG.out];exact hl))]
              go_wp2
              go_quiet (first|(go_at_call 230;refine Calls.quiet_of_same (less _ _ _)))
              go_wp2
              go_roundw
              case rel=>
               refine⟨k,s+1,m3+nq,du,rfl,by go_num,by omega,by omega,by omega,hsu,by rw[HW.out];exact putRow_drewN _ _ _ _ _ _ _,?_⟩;show _=_;rw[←hO.out,pi_go aj a b s i k dk hs HK.out (by omega) (by omega),HD.out,oJ.out]
              case measure=>first|(simp[aN];done)|(simp[aN];omega)
            ·have FC:¬(j:Int)<b:=by omega
             clear hw3;have oJ:Hid (fixUp aj b k dC=du):=by
              show _=_;unfold fixUp;rw[if_pos hb2,←hU.out,shiftUp_stop aj b j du (Or.inl hjlt)]
             go_wp2
             go_roundw
             case rel=>
              refine⟨k,s+1,m3,du,rfl,by go_num,by omega,by omega,by omega,hsu,HW3.out,?_⟩;show _=_;rw[←hO.out,pi_go aj a b s i k dk hs HK.out (by omega) (by omega),HD.out,oJ.out]
             case measure=>first|(simp[aN];done)|(simp[aN];omega)
          ·have MZ:¬(2:Int)≤(b:Int)-(k:Int):=by omega
           have oJ:Hid (fixUp aj b k dC=dC):=by show _=_;unfold fixUp;rw[if_neg (by omega)]
           go_wp2
           go_roundw
           case rel=>
            refine⟨k,s+1,mC,dC,rfl,by go_num,by omega,by omega,by omega,JF,Fz.out,?_⟩;show _=_;rw[←hO.out,pi_go aj a b s i k dk hs HK.out (by omega) (by omega),HD.out,oJ.out]
           case measure=>first|(simp[aN];done)|(simp[aN];omega)
       ·have XZ:¬(2:Int)≤(k:Int)-a:=by omega
        have HD:Hid (fixDown aj a k (Sort.swp dk k (k-1))=Sort.swp dk k (k-1)):=by show _=_;unfold fixDown;rw[if_neg (by omega)]
        obtain⟨dC,MX⟩:∃dC,Sort.swp dk k (k-1)=dC:=⟨_,rfl⟩
        have JF:=hs1;have X3:=hsw;rw[MX]at JF X3;have HD2:=HD;have aeE:=MX;clear hl;obtain⟨mC,Fz⟩:∃mC,Hid (((wr.drewN (nq+1)).setCell ⟨blk,off+k,none⟩ (en (G (k-1)))).setCell ⟨blk,off+(k-1),none⟩ (en (G k))=putRow en (Sort.ahead w mC) blk off dC):=⟨_,X3⟩
        replace HD:Hid (fixDown aj a k (Sort.swp dk k (k-1))=dC):=by show _=_;rw[HD.out,MX]
        clear hsw X3 MX aeE HD2;by_cases hb2:2≤b-k
        ·have MZ:(2:Int)≤(b:Int)-(k:Int):=by omega
         go_wp2
         rw[Fz.out];generalize M_:putRow en (Sort.ahead w mC) blk off dC=wC;have X0:Hid (wC=putRow en (Sort.ahead w mC) blk off dC):=M_.symm;clear M_ Fz
         go_loopw [10] (fun vj wr2=>∃(j m3:Nat) (du:Array Nat),vj=.int .i64 j∧k+1≤j∧j≤b∧du.size=d.size∧wr2=putRow en (Sort.ahead w m3) blk off du∧Hid (shiftUp aj b j du=shiftUp aj b (k+1) dC)) (fun vj _=>b-(aN vj).toNat)
         case atStart=>exact⟨k+1,mC,dC,by go_num,Nat.le_refl _,by omega,JF,X0.out,rfl⟩
         case round=>
          obtain⟨j,m3,du,rfl,hkj,hjb,hsu,hw3,hU⟩:=hrel;have HW3:=ae hw3;by_cases hjlt:j<b
          ·have FC:(j:Int)<b:=by omega
           obtain⟨G,hG⟩:∃G:Nat→Nat,∀t,G t=du[t]! :=⟨fun t=>du[t]!,fun _=>rfl⟩
           have hcw:∀t,t<d.size→wr.cell? ⟨blk,off+t,none⟩=some (en (G t)):=fun t ht=>by
            rw[hw3,hG];exact cell?_putRow _ _ _ _ d du (holds_ahead _ _ _ _ _ _ HH.out) hsu t (by omega)
           have hfw:∀t,t<d.size→wr.frozen? ⟨blk,off+t,none⟩=false:=fun t ht=>by
            rw[hw3,frozen?_putRow];exact((holds_ahead _ _ m3 _ _ _ HH.out) t ht).2
           have HW:=ae hw3;have HG:=ae hG;clear hw3 hG;cases hl:aj (G j) (G (j-1))with
           |true=>
            go_wp2
            go_quiet (first|(go_at_call 230;refine Calls.quiet_of_same (less _ _ _)))
            go_wp2
            go_region
            all_goals go_wp2
            go_roundw
            case rel=>
             refine⟨j+1,m3+(nq+1),Sort.swp du j (j-1),by go_num,by omega,by omega,by rw[size_swp];exact hsu,?_,?_⟩
             ·rw[HW.out,HG.out,HG.out];exact swap_worldA _ w m3 (nq+1) blk off du j (j-1) (by omega) (by omega)
             ·show _=_;rw[←hU.out,shiftUp_go aj b j du (by omega) (by rw[←HG.out,←HG.out];exact hl)]
            case measure=>first|(simp[aN];done)|(simp[aN];omega)
           |false=>
            have oJ:Hid (fixUp aj b k dC=du):=by
             show _=_;unfold fixUp;rw[if_pos hb2,←hU.out,shiftUp_stop aj b j du (Or.inr (by rw[←HG.out,←HG.out];exact hl))]
            go_wp2
            go_quiet (first|(go_at_call 230;refine Calls.quiet_of_same (less _ _ _)))
            go_wp2
            go_roundw
            case rel=>
             refine⟨k,s+1,m3+nq,du,rfl,by go_num,by omega,by omega,by omega,hsu,by rw[HW.out];exact putRow_drewN _ _ _ _ _ _ _,?_⟩;show _=_;rw[←hO.out,pi_go aj a b s i k dk hs HK.out (by omega) (by omega),HD.out,oJ.out]
            case measure=>first|(simp[aN];done)|(simp[aN];omega)
          ·have FC:¬(j:Int)<b:=by omega
           clear hw3;have oJ:Hid (fixUp aj b k dC=du):=by
            show _=_;unfold fixUp;rw[if_pos hb2,←hU.out,shiftUp_stop aj b j du (Or.inl hjlt)]
           go_wp2
           go_roundw
           case rel=>
            refine⟨k,s+1,m3,du,rfl,by go_num,by omega,by omega,by omega,hsu,HW3.out,?_⟩;show _=_;rw[←hO.out,pi_go aj a b s i k dk hs HK.out (by omega) (by omega),HD.out,oJ.out]
           case measure=>first|(simp[aN];done)|(simp[aN];omega)
        ·have MZ:¬(2:Int)≤(b:Int)-(k:Int):=by omega
         have oJ:Hid (fixUp aj b k dC=dC):=by show _=_;unfold fixUp;rw[if_neg (by omega)]
         go_wp2
         go_roundw
         case rel=>
          refine⟨k,s+1,mC,dC,rfl,by go_num,by omega,by omega,by omega,JF,Fz.out,?_⟩;show _=_;rw[←hO.out,pi_go aj a b s i k dk hs HK.out (by omega) (by omega),HD.out,oJ.out]
         case measure=>first|(simp[aN];done)|(simp[aN];omega)
    ·have aeB:¬(k:Int)<b:=by omega
     have hv:Sort.partialInsertionSort aj d a b=(dk,true):=by
      unfold Sort.partialInsertionSort;rw[←hO.out,pi_true aj a b s i dk hs (by rw[←hS.out,scanSorted_stop aj dk b k (Or.inl hkb')];omega)]
     have HV:=ae hv;have hkeq:((k:Int)==b)=true:=by rw[beq_iff_eq];omega
     clear hv
     go_wp2
     go_quiet (first|(go_at_call 230;refine Calls.quiet_of_same (less _ _ _)))
     go_wp2
     go_ret
     exact⟨by rw[HV.out];rfl,m+nq,by rw[HV.out,HW.out];exact putRow_drewN _ _ _ _ _ _ _⟩
  ·have hsi:¬(s:Int)<5:=by omega
   have hv:Sort.partialInsertionSort aj d a b=(dk,false):=by
    unfold Sort.partialInsertionSort;obtain rfl:s=5:=by omega
    rw[←hO.out,pi_end]
   have HV:=ae hv;have JE:=ae hwr;clear hv hwr
   go_wp2
   go_ret
   exact⟨by rw[HV.out];rfl,n,by rw[HV.out];exact JE.out⟩
end Go.Proofs.YtjiehhlghjnfhaaGreatDoor.aC
namespace Go.Proofs.YtjiehhlghjnfhaaGreatDoor.aC
open Go.RowKit Go.Sort Go.Proofs.YtjiehhlghjnfhaaGreatDoor
set_option maxRecDepth 100000 in
theorem ac5 (blk off cap a b pivot:Nat) (d:Array Nat) (w:World) (hH:Holds en w blk off d) (hap:a≤pivot) (hpb:pivot<b) (hb:b≤d.size) (hsz:d.size<4611686018427387904):
 Calls Tryz.prog 232 #[.slice (some ⟨blk,off,none⟩) d.size cap,.int .i64 a,.int .i64 b,.int .i64 pivot] w fun e w'=>
  e=.returned (.tuple #[.int .i64 (Sort.partition aj d a b pivot).1,.bool (Sort.partition aj d a b pivot).2.1])∧∃n,w'=putRow en (Sort.ahead w n) blk off (Sort.partition aj d a b pivot).2.2:=by
 obtain⟨G,hG⟩:∃G:Nat→Nat,∀t,G t=d[t]! :=⟨fun t=>d[t]!,fun _=>rfl⟩
 have hcw:∀t,t<d.size→w.cell? ⟨blk,off+t,none⟩=some (en (G t)):=fun t ht=>by rw[hG];exact(hH t ht).1
 have hfw:∀t,t<d.size→w.frozen? ⟨blk,off+t,none⟩=false:=fun t ht=>(hH t ht).2
 have hsw:((w.drewN 1).setCell ⟨blk,off+a,none⟩ (en (G pivot))).setCell ⟨blk,off+pivot,none⟩ (en (G a))=putRow en (Sort.ahead w (0+1)) blk off (Sort.swp d a pivot):=by
  have e:=swap_worldA en w 0 1 blk off d a pivot (by omega) (by omega);rw[ahead_zero,putRow_self _ w blk off d hH]at e;rw[hG,hG];exact e
 have hla:a<d.size:=by omega
 have hlp:pivot<d.size:=by omega
 obtain⟨v',hy'⟩:=cell?_setCell_some (w:=w) (p:=⟨blk,off+a,none⟩) (x:=en (G pivot)) (q:=⟨blk,off+pivot,none⟩) (hcw pivot hlp);have HH:=ae hH;have uZ:=ae hsw;clear hH hG hsw
 go_enter Tryz.func232,Tryz.ntmps232
 go_wp2
 go_region
 go_wp2
 clear hcw hfw hy';have e1:((a:Int)+1)=((a+1:Nat):Int):=by omega
 have e2:((b:Int)-1)=((b-1:Nat):Int):=by omega
 rw[e1,e2];clear e1 e2;obtain⟨i,hi⟩:∃i,i=a+1:=⟨_,rfl⟩
 obtain⟨j,hj⟩:∃j,j=b-1:=⟨_,rfl⟩
 obtain⟨dk,hdk⟩:∃dk,dk=Sort.swp d a pivot:=⟨_,rfl⟩
 rw[←hi,←hj];rw[←hdk]at uZ;have hai:a<i:=by omega
 have hij:i≤j+1:=by omega
 have hjb:j<b:=by omega
 have hsk:dk.size=d.size:=by rw[hdk,size_swp]
 obtain⟨n,JE⟩:∃n,Hid (((w.drewN 1).setCell ⟨blk,off+a,none⟩ (en (G pivot))).setCell ⟨blk,off+pivot,none⟩ (en (G a))=putRow en (Sort.ahead w n) blk off dk):=⟨_,uZ.out⟩
 have HI:=ae hi;have HJ:=ae hj;have HDK:=ae hdk;clear hi hj hdk uZ;obtain⟨G,hG⟩:∃G:Nat→Nat,∀t,G t=dk[t]! :=⟨fun t=>dk[t]!,fun _=>rfl⟩
 have HG:=ae hG;clear hG
 go_loopw [10] (fun vi wr2=>∃(i' m:Nat),vi=.int .i64 i'∧i≤i'∧i'≤j+1∧wr2=putRow en (Sort.ahead w m) blk off dk∧
  Hid (scanUp (fun x=>aj x dk[a]!) dk j i'=scanUp (fun x=>aj x dk[a]!) dk j i)) (fun vi _=>j+1-(aN vi).toNat)
 case atStart=>exact⟨i,n,rfl,Nat.le_refl _,hij,JE.out,rfl⟩
 case round=>
  obtain⟨i',m,rfl,hii,hij',hw1,hsc⟩:=hrel;have hcw:∀t,t<d.size→wr.cell? ⟨blk,off+t,none⟩=some (en (G t)):=fun t ht=>by
   rw[hw1,HG.out];exact cell?_putRow _ _ _ _ d dk (holds_ahead _ _ _ _ _ _ HH.out) hsk t (by omega)
  have hfw:∀t,t<d.size→wr.frozen? ⟨blk,off+t,none⟩=false:=fun t ht=>by
   rw[hw1,frozen?_putRow];exact((holds_ahead _ _ m _ _ _ HH.out) t ht).2
  have HW1:=ae hw1;clear hw1;by_cases hle:i'≤j
  ·have Na:(i':Int)≤j:=by omega
   cases hl:aj (G i') (G a)with
   |true=>
    go_wp2
    go_quiet (first|(go_at_call 230;refine Calls.quiet_of_same (less _ _ _)))
    go_wp2
    go_roundw
    case rel=>
     refine⟨i'+1,m+nq,by go_num,by omega,by omega,by rw[HW1.out];exact putRow_drewN _ _ _ _ _ _ _,?_⟩;show _=_;rw[←hsc.out];exact(scanUp_go (fun x=>aj x dk[a]!) dk j i' hle (by rw[←HG.out,←HG.out];exact hl)).symm
    case measure=>first|(simp[aN];done)|(simp[aN];omega)
   |false=>
    have hi2:Hid (i'=scanUp (fun x=>aj x dk[a]!) dk j i):=(scanUp_end (fun x=>aj x dk[a]!) dk j i' (Or.inr (by rw[←HG.out,←HG.out];exact hl))).symm.trans hsc.out
    go_wp2
    go_quiet (first|(go_at_call 230;refine Calls.quiet_of_same (less _ _ _)))
    obtain⟨mU,FD⟩:∃mU,Hid (wr.drewN nq=putRow en (Sort.ahead w mU) blk off dk):=⟨m+nq,by show _=_;rw[HW1.out];exact putRow_drewN _ _ _ _ _ _ _⟩
    clear hcw hfw HW1 hsc
    go_wp2
    go_loopw [11] (fun vj wr2=>∃(j' m2:Nat),vj=.int .i64 j'∧j'≤j∧i'≤j'+1∧wr2=putRow en (Sort.ahead w m2) blk off dk∧
     Hid (scanDown (fun x=> !aj x dk[a]!) dk i' j'=scanDown (fun x=> !aj x dk[a]!) dk i' j)) (fun vj _=>(aN vj).toNat)
    case atStart=>exact⟨j,mU,rfl,Nat.le_refl _,hij',FD.out,rfl⟩
    case round=>
     obtain⟨j',m2,rfl,hjj,hij2,hw2,hsd⟩:=hrel;have hcw:∀t,t<d.size→wr.cell? ⟨blk,off+t,none⟩=some (en (G t)):=fun t ht=>by
      rw[hw2,HG.out];exact cell?_putRow _ _ _ _ d dk (holds_ahead _ _ _ _ _ _ HH.out) hsk t (by omega)
     have hfw:∀t,t<d.size→wr.frozen? ⟨blk,off+t,none⟩=false:=fun t ht=>by
      rw[hw2,frozen?_putRow];exact((holds_ahead _ _ m2 _ _ _ HH.out) t ht).2
     have HW2:=ae hw2;clear hw2;by_cases hle2:i'≤j'
     ·have vY:(i':Int)≤j':=by omega
      cases hl2:aj (G j') (G a)with
      |false=>
       go_wp2
       go_quiet (first|(go_at_call 230;refine Calls.quiet_of_same (less _ _ _)))
       go_wp2
       go_roundw
       case rel=>
        refine⟨j'-1,m2+nq,by congr 1;omega,by omega,by omega,by rw[HW2.out];exact putRow_drewN _ _ _ _ _ _ _,?_⟩;show _=_;rw[←hsd.out];exact(scanDown_go (fun x=> !aj x dk[a]!) dk i' j' hle2 (by omega) (by rw[←HG.out,←HG.out,hl2];rfl)).symm
       case measure=>first|(simp[aN];done)|(simp[aN];omega)
      |true=>
       have hj2:Hid (j'=scanDown (fun x=> !aj x dk[a]!) dk i' j):=(scanDown_end (fun x=> !aj x dk[a]!) dk i' j' (Or.inr (by rw[←HG.out,←HG.out,hl2];rfl))).symm.trans hsd.out;have hlt3:=part_scans_lt aj a i j dk (by omega) hi2.out hj2.out hle2;have hgt:¬(j':Int)<i':=by omega
       go_wp2
       go_quiet (first|(go_at_call 230;refine Calls.quiet_of_same (less _ _ _)))
       go_wp2
       go_region
       all_goals go_wp2
       obtain⟨dn,hdn⟩:∃dn,Sort.swp dk i' j'=dn:=⟨_,rfl⟩
       have hsn:dn.size=d.size:=by rw[←hdn,size_swp];exact hsk
       obtain⟨R,hR⟩:∃R,partLoop aj a (i'+1) (j'-1) dn=R:=⟨_,rfl⟩
       have hP:Sort.partition aj d a b pivot=(R.1,false,Sort.swp R.2 R.1 a):=by
        rw[part_first_go aj d a b pivot HI.out HJ.out HDK.out hi2.out hj2.out (by omega),hdn,hR]
       have hWn:((wr.drewN (nq+1)).setCell ⟨blk,off+i',none⟩ (en (G j'))).setCell ⟨blk,off+j',none⟩ (en (G i'))=putRow en (Sort.ahead w (m2+(nq+1))) blk off dn:=by
        rw[HW2.out,HG.out,HG.out,←hdn];exact swap_worldA _ w m2 (nq+1) blk off dk i' j' (by omega) (by omega)
       have HP:=ae hP;have HR:=ae hR;have HWn:=ae hWn;clear hP hR hWn hdn hcw hfw HG HW2 HI HJ HDK hi2 hj2 hsd;generalize Value.bool (decide (j'<i'))=x65;generalize Value.bool (aj (G j') (G a))=x58
       go_loopw [10,11] (fun vi vj wr=>∃(i j n:Nat) (dk:Array Nat),vi=.int .i64 i∧vj=.int .i64 j∧a<i∧i≤j+1∧j<b∧dk.size=d.size∧wr=putRow en (Sort.ahead w n) blk off dk∧
           Hid (partLoop aj a i j dk=partLoop aj a (i'+1) (j'-1) dn)) (fun vi vj _=>(aN vj).toNat+1-(aN vi).toNat)
       case atStart=>exact⟨i'+1,j'-1,_,dn,by go_num,by congr 1;omega,by omega,by omega,by omega,hsn,HWn.out,rfl⟩
       case round=>
        clear HWn hsk hai hij hjb hij' hij2 hlt3
        rename_i i1 j1 _ _
        obtain⟨i,j,n,dk,rfl,rfl,hai,hij,hjb,hsk,hwr,hE⟩:=hrel;obtain⟨G,hG⟩:∃G:Nat→Nat,∀t,G t=dk[t]! :=⟨fun t=>dk[t]!,fun _=>rfl⟩
        have HG:=ae hG;have JE:=ae hwr;clear hG hwr
        go_wp2
        go_loopw [10] (fun vi wr2=>∃(i' m:Nat),vi=.int .i64 i'∧i≤i'∧i'≤j+1∧wr2=putRow en (Sort.ahead w m) blk off dk∧
         Hid (scanUp (fun x=>aj x dk[a]!) dk j i'=scanUp (fun x=>aj x dk[a]!) dk j i)) (fun vi _=>j+1-(aN vi).toNat)
        case atStart=>exact⟨i,n,rfl,Nat.le_refl _,hij,JE.out,rfl⟩
        case round=>
         obtain⟨i',m,rfl,hii,hij',hw1,hsc⟩:=hrel;have hcw:∀t,t<d.size→wr.cell? ⟨blk,off+t,none⟩=some (en (G t)):=fun t ht=>by
          rw[hw1,HG.out];exact cell?_putRow _ _ _ _ d dk (holds_ahead _ _ _ _ _ _ HH.out) hsk t (by omega)
         have hfw:∀t,t<d.size→wr.frozen? ⟨blk,off+t,none⟩=false:=fun t ht=>by
          rw[hw1,frozen?_putRow];exact((holds_ahead _ _ m _ _ _ HH.out) t ht).2
         have HW1:=ae hw1;clear hw1;by_cases hle:i'≤j
         ·have Na:(i':Int)≤j:=by omega
          cases hl:aj (G i') (G a)with
          |true=>
           go_wp2
           go_quiet (first|(go_at_call 230;refine Calls.quiet_of_same (less _ _ _)))
           go_wp2
           go_roundw
           case rel=>
            refine⟨i'+1,m+nq,by go_num,by omega,by omega,by rw[HW1.out];exact putRow_drewN _ _ _ _ _ _ _,?_⟩;show _=_;rw[←hsc.out];exact(scanUp_go (fun x=>aj x dk[a]!) dk j i' hle (by rw[←HG.out,←HG.out];exact hl)).symm
           case measure=>first|(simp[aN];done)|(simp[aN];omega)
          |false=>
           have hi2:Hid (i'=scanUp (fun x=>aj x dk[a]!) dk j i):=(scanUp_end (fun x=>aj x dk[a]!) dk j i' (Or.inr (by rw[←HG.out,←HG.out];exact hl))).symm.trans hsc.out
           go_wp2
           go_quiet (first|(go_at_call 230;refine Calls.quiet_of_same (less _ _ _)))
           obtain⟨mU,FD⟩:∃mU,Hid (wr.drewN nq=putRow en (Sort.ahead w mU) blk off dk):=⟨m+nq,by show _=_;rw[HW1.out];exact putRow_drewN _ _ _ _ _ _ _⟩
           clear hcw hfw HW1 hsc
           go_wp2
           go_loopw [11] (fun vj wr2=>∃(j' m2:Nat),vj=.int .i64 j'∧j'≤j∧i'≤j'+1∧wr2=putRow en (Sort.ahead w m2) blk off dk∧
               Hid (scanDown (fun x=> !aj x dk[a]!) dk i' j'=scanDown (fun x=> !aj x dk[a]!) dk i' j)) (fun vj _=>(aN vj).toNat)
           case atStart=>exact⟨j,mU,rfl,Nat.le_refl _,hij',FD.out,rfl⟩
           case round=>
            obtain⟨j',m2,rfl,hjj,hij2,hw2,hsd⟩:=hrel;have hcw:∀t,t<d.size→wr.cell? ⟨blk,off+t,none⟩=some (en (G t)):=fun t ht=>by
             rw[hw2,HG.out];exact cell?_putRow _ _ _ _ d dk (holds_ahead _ _ _ _ _ _ HH.out) hsk t (by omega)
            have hfw:∀t,t<d.size→wr.frozen? ⟨blk,off+t,none⟩=false:=fun t ht=>by
             rw[hw2,frozen?_putRow];exact((holds_ahead _ _ m2 _ _ _ HH.out) t ht).2
            have HW2:=ae hw2;clear hw2;by_cases hle2:i'≤j'
            ·have vY:(i':Int)≤j':=by omega
             cases hl2:aj (G j') (G a)with
             |false=>
              go_wp2
              go_quiet (first|(go_at_call 230;refine Calls.quiet_of_same (less _ _ _)))
              go_wp2
              go_roundw
              case rel=>
               refine⟨j'-1,m2+nq,by congr 1;omega,by omega,by omega,by rw[HW2.out];exact putRow_drewN _ _ _ _ _ _ _,?_⟩;show _=_;rw[←hsd.out];exact(scanDown_go (fun x=> !aj x dk[a]!) dk i' j' hle2 (by omega) (by rw[←HG.out,←HG.out,hl2];rfl)).symm
              case measure=>first|(simp[aN];done)|(simp[aN];omega)
             |true=>
              have hj2:Hid (j'=scanDown (fun x=> !aj x dk[a]!) dk i' j):=(scanDown_end (fun x=> !aj x dk[a]!) dk i' j' (Or.inr (by rw[←HG.out,←HG.out,hl2];rfl))).symm.trans hsd.out;have hlt3:=part_scans_lt aj a i j dk (by omega) hi2.out hj2.out hle2;have hgt:¬(j':Int)<i':=by omega
              go_wp2
              go_quiet (first|(go_at_call 230;refine Calls.quiet_of_same (less _ _ _)))
              go_wp2
              go_region
              all_goals go_wp2
              go_roundw
              case rel=>
               refine⟨i'+1,j'-1,m2+(nq+1),Sort.swp dk i' j',by go_num,by congr 1;omega,by omega,by omega,by omega,by rw[size_swp];exact hsk,?_,?_⟩
               ·rw[HW2.out,HG.out,HG.out];exact swap_worldA _ w m2 (nq+1) blk off dk i' j' (by omega) (by omega)
               ·show _=_;rw[←hE.out];exact(part_go aj a i j dk hi2.out hj2.out (by omega)).symm
              case measure=>first|(simp[aN];done)|(simp[aN];omega)
            ·have vY:¬(i':Int)≤j':=by omega
             have hj2:Hid (j'=scanDown (fun x=> !aj x dk[a]!) dk i' j):=(scanDown_end (fun x=> !aj x dk[a]!) dk i' j' (Or.inl hle2)).symm.trans hsd.out;have hgt:(j':Int)<i':=by omega
             have hjd:j'<d.size:=by omega
             have had:a<d.size:=by omega
             have hv:Sort.partition aj d a b pivot=(j',false,Sort.swp dk j' a):=by
              rw[HP.out,←HR.out,←hE.out,part_break aj a i j dk hi2.out hj2.out (by omega)]
             have HV:=ae hv;clear hv
             go_wp2
             go_quiet (first|(go_at_call 230;refine Calls.quiet_of_same (less _ _ _)))
             obtain⟨v',hy'⟩:=cell?_setCell_some (w:=wr.drewN (nq+1)) (p:=⟨blk,off+j',none⟩) (x:=en (G a)) (q:=⟨blk,off+a,none⟩) (hcw a had)
             go_wp2
             go_region
             go_wp2
             go_ret2
             refine⟨by rw[HV.out];rfl,m2+(nq+1),?_⟩;rw[HV.out,HW2.out,HG.out,HG.out];exact swap_worldA _ w m2 (nq+1) blk off dk j' a (by omega) (by omega)
         ·have Na:¬(i':Int)≤j:=by omega
          have hi2:Hid (i'=scanUp (fun x=>aj x dk[a]!) dk j i):=(scanUp_end (fun x=>aj x dk[a]!) dk j i' (Or.inl hle)).symm.trans hsc.out
          go_wp2
          go_quiet (first|(go_at_call 230;refine Calls.quiet_of_same (less _ _ _)))
          obtain⟨mU,FD⟩:∃mU,Hid (wr.drewN nq=putRow en (Sort.ahead w mU) blk off dk):=⟨m+nq,by show _=_;rw[HW1.out];exact putRow_drewN _ _ _ _ _ _ _⟩
          clear hcw hfw HW1 hsc
          go_wp2
          go_loopw [11] (fun vj wr2=>∃(j' m2:Nat),vj=.int .i64 j'∧j'≤j∧i'≤j'+1∧wr2=putRow en (Sort.ahead w m2) blk off dk∧
               Hid (scanDown (fun x=> !aj x dk[a]!) dk i' j'=scanDown (fun x=> !aj x dk[a]!) dk i' j)) (fun vj _=>(aN vj).toNat)
          case atStart=>exact⟨j,mU,rfl,Nat.le_refl _,hij',FD.out,rfl⟩
          case round=>
           obtain⟨j',m2,rfl,hjj,hij2,hw2,hsd⟩:=hrel;have hcw:∀t,t<d.size→wr.cell? ⟨blk,off+t,none⟩=some (en (G t)):=fun t ht=>by
            rw[hw2,HG.out];exact cell?_putRow _ _ _ _ d dk (holds_ahead _ _ _ _ _ _ HH.out) hsk t (by omega)
           have hfw:∀t,t<d.size→wr.frozen? ⟨blk,off+t,none⟩=false:=fun t ht=>by
            rw[hw2,frozen?_putRow];exact((holds_ahead _ _ m2 _ _ _ HH.out) t ht).2
           have HW2:=ae hw2;clear hw2;by_cases hle2:i'≤j'
           ·exfalso;omega
           ·have vY:¬(i':Int)≤j':=by omega
            have hj2:Hid (j'=scanDown (fun x=> !aj x dk[a]!) dk i' j):=(scanDown_end (fun x=> !aj x dk[a]!) dk i' j' (Or.inl hle2)).symm.trans hsd.out;have hgt:(j':Int)<i':=by omega
            have hjd:j'<d.size:=by omega
            have had:a<d.size:=by omega
            have hv:Sort.partition aj d a b pivot=(j',false,Sort.swp dk j' a):=by
             rw[HP.out,←HR.out,←hE.out,part_break aj a i j dk hi2.out hj2.out (by omega)]
            have HV:=ae hv;clear hv
            go_wp2
            go_quiet (first|(go_at_call 230;refine Calls.quiet_of_same (less _ _ _)))
            obtain⟨v',hy'⟩:=cell?_setCell_some (w:=wr.drewN (nq+1)) (p:=⟨blk,off+j',none⟩) (x:=en (G a)) (q:=⟨blk,off+a,none⟩) (hcw a had)
            go_wp2
            go_region
            go_wp2
            go_ret2
            refine⟨by rw[HV.out];rfl,m2+(nq+1),?_⟩;rw[HV.out,HW2.out,HG.out,HG.out];exact swap_worldA _ w m2 (nq+1) blk off dk j' a (by omega) (by omega)
     ·have vY:¬(i':Int)≤j':=by omega
      have hj2:Hid (j'=scanDown (fun x=> !aj x dk[a]!) dk i' j):=(scanDown_end (fun x=> !aj x dk[a]!) dk i' j' (Or.inl hle2)).symm.trans hsd.out;have hgt:(j':Int)<i':=by omega
      have hjd:j'<d.size:=by omega
      have had:a<d.size:=by omega
      have hv:Sort.partition aj d a b pivot=(j',true,Sort.swp dk j' a):=part_first_break aj d a b pivot HI.out HJ.out HDK.out hi2.out hj2.out (by omega);have HV:=ae hv;clear hv
      go_wp2
      go_quiet (first|(go_at_call 230;refine Calls.quiet_of_same (less _ _ _)))
      obtain⟨v',hy'⟩:=cell?_setCell_some (w:=wr.drewN (nq+1)) (p:=⟨blk,off+j',none⟩) (x:=en (G a)) (q:=⟨blk,off+a,none⟩) (hcw a had)
      go_wp2
      go_region
      go_wp2
      go_ret2
      refine⟨by rw[HV.out];rfl,m2+(nq+1),?_⟩;rw[HV.out,HW2.out,HG.out,HG.out];exact swap_worldA _ w m2 (nq+1) blk off dk j' a (by omega) (by omega)
  ·have Na:¬(i':Int)≤j:=by omega
   have hi2:Hid (i'=scanUp (fun x=>aj x dk[a]!) dk j i):=(scanUp_end (fun x=>aj x dk[a]!) dk j i' (Or.inl hle)).symm.trans hsc.out
   go_wp2
   go_quiet (first|(go_at_call 230;refine Calls.quiet_of_same (less _ _ _)))
   obtain⟨mU,FD⟩:∃mU,Hid (wr.drewN nq=putRow en (Sort.ahead w mU) blk off dk):=⟨m+nq,by show _=_;rw[HW1.out];exact putRow_drewN _ _ _ _ _ _ _⟩
   clear hcw hfw HW1 hsc
   go_wp2
   go_loopw [11] (fun vj wr2=>∃(j' m2:Nat),vj=.int .i64 j'∧j'≤j∧i'≤j'+1∧wr2=putRow en (Sort.ahead w m2) blk off dk∧
    Hid (scanDown (fun x=> !aj x dk[a]!) dk i' j'=scanDown (fun x=> !aj x dk[a]!) dk i' j)) (fun vj _=>(aN vj).toNat)
   case atStart=>exact⟨j,mU,rfl,Nat.le_refl _,hij',FD.out,rfl⟩
   case round=>
    obtain⟨j',m2,rfl,hjj,hij2,hw2,hsd⟩:=hrel;have hcw:∀t,t<d.size→wr.cell? ⟨blk,off+t,none⟩=some (en (G t)):=fun t ht=>by
     rw[hw2,HG.out];exact cell?_putRow _ _ _ _ d dk (holds_ahead _ _ _ _ _ _ HH.out) hsk t (by omega)
    have hfw:∀t,t<d.size→wr.frozen? ⟨blk,off+t,none⟩=false:=fun t ht=>by
     rw[hw2,frozen?_putRow];exact((holds_ahead _ _ m2 _ _ _ HH.out) t ht).2
    have HW2:=ae hw2;clear hw2;by_cases hle2:i'≤j'
    ·exfalso;omega
    ·have vY:¬(i':Int)≤j':=by omega
     have hj2:Hid (j'=scanDown (fun x=> !aj x dk[a]!) dk i' j):=(scanDown_end (fun x=> !aj x dk[a]!) dk i' j' (Or.inl hle2)).symm.trans hsd.out;have hgt:(j':Int)<i':=by omega
     have hjd:j'<d.size:=by omega
     have had:a<d.size:=by omega
     have hv:Sort.partition aj d a b pivot=(j',true,Sort.swp dk j' a):=part_first_break aj d a b pivot HI.out HJ.out HDK.out hi2.out hj2.out (by omega);have HV:=ae hv;clear hv
     go_wp2
     go_quiet (first|(go_at_call 230;refine Calls.quiet_of_same (less _ _ _)))
     obtain⟨v',hy'⟩:=cell?_setCell_some (w:=wr.drewN (nq+1)) (p:=⟨blk,off+j',none⟩) (x:=en (G a)) (q:=⟨blk,off+a,none⟩) (hcw a had)
     go_wp2
     go_region
     go_wp2
     go_ret2
     refine⟨by rw[HV.out];rfl,m2+(nq+1),?_⟩;rw[HV.out,HW2.out,HG.out,HG.out];exact swap_worldA _ w m2 (nq+1) blk off dk j' a (by omega) (by omega)
end Go.Proofs.YtjiehhlghjnfhaaGreatDoor.aC
namespace Go.Proofs.YtjiehhlghjnfhaaGreatDoor.aC
open Go.RowKit Go.Sort Go.Proofs.YtjiehhlghjnfhaaGreatDoor
set_option maxRecDepth 100000 in
theorem X4 (blk off cap a b pivot:Nat) (d:Array Nat) (w:World) (hH:Holds en w blk off d) (hap:a≤pivot) (hpb:pivot<b) (hb:b≤d.size) (hsz:d.size<4611686018427387904):
 Calls Tryz.prog 231 #[.slice (some ⟨blk,off,none⟩) d.size cap,.int .i64 a,.int .i64 b,.int .i64 pivot] w fun e w'=>
  e=.returned (.int .i64 (Sort.partitionEqual aj d a b pivot).1)∧∃n,w'=putRow en (Sort.ahead w n) blk off (Sort.partitionEqual aj d a b pivot).2:=by
 obtain⟨G,hG⟩:∃G:Nat→Nat,∀t,G t=d[t]! :=⟨fun t=>d[t]!,fun _=>rfl⟩
 have hcw:∀t,t<d.size→w.cell? ⟨blk,off+t,none⟩=some (en (G t)):=fun t ht=>by rw[hG];exact(hH t ht).1
 have hfw:∀t,t<d.size→w.frozen? ⟨blk,off+t,none⟩=false:=fun t ht=>(hH t ht).2
 have hsw:((w.drewN 1).setCell ⟨blk,off+a,none⟩ (en (G pivot))).setCell ⟨blk,off+pivot,none⟩ (en (G a))=putRow en (Sort.ahead w (0+1)) blk off (Sort.swp d a pivot):=by
  have e:=swap_worldA en w 0 1 blk off d a pivot (by omega) (by omega);rw[ahead_zero,putRow_self _ w blk off d hH]at e;rw[hG,hG];exact e
 have hla:a<d.size:=by omega
 have hlp:pivot<d.size:=by omega
 obtain⟨v',hy'⟩:=cell?_setCell_some (w:=w) (p:=⟨blk,off+a,none⟩) (x:=en (G pivot)) (q:=⟨blk,off+pivot,none⟩) (hcw pivot hlp);have HH:=ae hH;have HG:=ae hG;have uZ:=ae hsw;clear hH hG hsw
 go_enter Tryz.func231,Tryz.ntmps231
 go_wp2
 go_region
 go_wp2
 clear hcw hfw HG hy'
 go_loopw [9,10] (fun vi vj wr=>∃(i j n:Nat) (dk:Array Nat),vi=.int .i64 i∧vj=.int .i64 j∧a<i∧i≤j+1∧j<b∧dk.size=d.size∧wr=putRow en (Sort.ahead w n) blk off dk∧
  Hid (partEqLoop aj a i j dk=partEqLoop aj a (a+1) (b-1) (Sort.swp d a pivot))) (fun vi vj _=>(aN vj).toNat+1-(aN vi).toNat)
 case atStart=>exact⟨a+1,b-1,0+1,Sort.swp d a pivot,by go_num,by congr 1;omega,by omega,by omega,by omega,size_swp _ _ _,uZ.out,rfl⟩
 case round=>
  clear uZ;obtain⟨i,j,n,dk,rfl,rfl,hai,hij,hjb,hsk,hwr,hE⟩:=hrel;obtain⟨G,hG⟩:∃G:Nat→Nat,∀t,G t=dk[t]! :=⟨fun t=>dk[t]!,fun _=>rfl⟩
  have HG:=ae hG;have JE:=ae hwr;clear hG hwr
  go_wp2
  go_loopw [9] (fun vi wr2=>∃(i' m:Nat),vi=.int .i64 i'∧i≤i'∧i'≤j+1∧wr2=putRow en (Sort.ahead w m) blk off dk∧
        Hid (scanUp (fun x=> !aj dk[a]! x) dk j i'=scanUp (fun x=> !aj dk[a]! x) dk j i)) (fun vi _=>j+1-(aN vi).toNat)
  case atStart=>exact⟨i,n,rfl,Nat.le_refl _,hij,JE.out,rfl⟩
  case round=>
   obtain⟨i',m,rfl,hii,hij',hw1,hsc⟩:=hrel;have hcw:∀t,t<d.size→wr.cell? ⟨blk,off+t,none⟩=some (en (G t)):=fun t ht=>by
    rw[hw1,HG.out];exact cell?_putRow _ _ _ _ d dk (holds_ahead _ _ _ _ _ _ HH.out) hsk t (by omega)
   have hfw:∀t,t<d.size→wr.frozen? ⟨blk,off+t,none⟩=false:=fun t ht=>by
    rw[hw1,frozen?_putRow];exact((holds_ahead _ _ m _ _ _ HH.out) t ht).2
   have HW1:=ae hw1;clear hw1;by_cases hle:i'≤j
   ·have Na:(i':Int)≤j:=by omega
    cases hl:aj (G a) (G i')with
    |false=>
     go_wp2
     go_quiet (first|(go_at_call 230;refine Calls.quiet_of_same (less _ _ _)))
     go_wp2
     go_roundw
     case rel=>
      refine⟨i'+1,m+nq,by go_num,by omega,by omega,by rw[HW1.out];exact putRow_drewN _ _ _ _ _ _ _,?_⟩;show _=_;rw[←hsc.out];exact(scanUp_go (fun x=> !aj dk[a]! x) dk j i' hle (by rw[←HG.out,←HG.out,hl];rfl)).symm
     case measure=>first|(simp[aN];done)|(simp[aN];omega)
    |true=>
     have hi2:Hid (i'=scanUp (fun x=> !aj dk[a]! x) dk j i):=(scanUp_end (fun x=> !aj dk[a]! x) dk j i' (Or.inr (by rw[←HG.out,←HG.out,hl];rfl))).symm.trans hsc.out
     go_wp2
     go_quiet (first|(go_at_call 230;refine Calls.quiet_of_same (less _ _ _)))
     obtain⟨mU,FD⟩:∃mU,Hid (wr.drewN nq=putRow en (Sort.ahead w mU) blk off dk):=⟨m+nq,by show _=_;rw[HW1.out];exact putRow_drewN _ _ _ _ _ _ _⟩
     clear hcw hfw HW1 hsc
     go_wp2
     go_loopw [10] (fun vj wr2=>∃(j' m2:Nat),vj=.int .i64 j'∧j'≤j∧i'≤j'+1∧wr2=putRow en (Sort.ahead w m2) blk off dk∧
      Hid (scanDown (fun x=>aj dk[a]! x) dk i' j'=scanDown (fun x=>aj dk[a]! x) dk i' j)) (fun vj _=>(aN vj).toNat)
     case atStart=>exact⟨j,mU,rfl,Nat.le_refl _,hij',FD.out,rfl⟩
     case round=>
      obtain⟨j',m2,rfl,hjj,hij2,hw2,hsd⟩:=hrel;have hcw:∀t,t<d.size→wr.cell? ⟨blk,off+t,none⟩=some (en (G t)):=fun t ht=>by
       rw[hw2,HG.out];exact cell?_putRow _ _ _ _ d dk (holds_ahead _ _ _ _ _ _ HH.out) hsk t (by omega)
      have hfw:∀t,t<d.size→wr.frozen? ⟨blk,off+t,none⟩=false:=fun t ht=>by
       rw[hw2,frozen?_putRow];exact((holds_ahead _ _ m2 _ _ _ HH.out) t ht).2
      have HW2:=ae hw2;clear hw2;by_cases hle2:i'≤j'
      ·have vY:(i':Int)≤j':=by omega
       cases hl2:aj (G a) (G j')with
       |true=>
        go_wp2
        go_quiet (first|(go_at_call 230;refine Calls.quiet_of_same (less _ _ _)))
        go_wp2
        go_roundw
        case rel=>
         refine⟨j'-1,m2+nq,by congr 1;omega,by omega,by omega,by rw[HW2.out];exact putRow_drewN _ _ _ _ _ _ _,?_⟩;show _=_;rw[←hsd.out];exact(scanDown_go (fun x=>aj dk[a]! x) dk i' j' hle2 (by omega) (by rw[←HG.out,←HG.out];exact hl2)).symm
        case measure=>first|(simp[aN];done)|(simp[aN];omega)
       |false=>
        have hj2:Hid (j'=scanDown (fun x=>aj dk[a]! x) dk i' j):=(scanDown_end (fun x=>aj dk[a]! x) dk i' j' (Or.inr (by rw[←HG.out,←HG.out];exact hl2))).symm.trans hsd.out;have hlt3:=scans_lt aj a i j dk (by omega) hi2.out hj2.out hle2;have hgt:¬(j':Int)<i':=by omega
        go_wp2
        go_quiet (first|(go_at_call 230;refine Calls.quiet_of_same (less _ _ _)))
        go_wp2
        go_region
        all_goals go_wp2
        go_roundw
        case rel=>
         refine⟨i'+1,j'-1,m2+(nq+1),Sort.swp dk i' j',by go_num,by congr 1;omega,by omega,by omega,by omega,by rw[size_swp];exact hsk,?_,?_⟩
         ·rw[HW2.out,HG.out,HG.out];exact swap_worldA _ w m2 (nq+1) blk off dk i' j' (by omega) (by omega)
         ·show _=_;rw[←hE.out];exact(partEq_go aj a i j dk hi2.out hj2.out (by omega)).symm
        case measure=>first|(simp[aN];done)|(simp[aN];omega)
      ·have vY:¬(i':Int)≤j':=by omega
       have hj2:Hid (j'=scanDown (fun x=>aj dk[a]! x) dk i' j):=(scanDown_end (fun x=>aj dk[a]! x) dk i' j' (Or.inl hle2)).symm.trans hsd.out;have hgt:(j':Int)<i':=by omega
       have hv:Sort.partitionEqual aj d a b pivot=(i',dk):=by
        unfold Sort.partitionEqual;rw[←hE.out];exact partEq_break aj a i j dk hi2.out hj2.out (by omega)
       have HV:=ae hv;clear hv
       go_wp2
       go_quiet (first|(go_at_call 230;refine Calls.quiet_of_same (less _ _ _)))
       go_wp2
       go_ret
       exact⟨by rw[HV.out];rfl,m2+nq,by rw[HV.out,HW2.out];exact putRow_drewN _ _ _ _ _ _ _⟩
   ·have Na:¬(i':Int)≤j:=by omega
    have hi2:Hid (i'=scanUp (fun x=> !aj dk[a]! x) dk j i):=(scanUp_end (fun x=> !aj dk[a]! x) dk j i' (Or.inl hle)).symm.trans hsc.out
    go_wp2
    go_quiet (first|(go_at_call 230;refine Calls.quiet_of_same (less _ _ _)))
    obtain⟨mU,FD⟩:∃mU,Hid (wr.drewN nq=putRow en (Sort.ahead w mU) blk off dk):=⟨m+nq,by show _=_;rw[HW1.out];exact putRow_drewN _ _ _ _ _ _ _⟩
    clear hcw hfw HW1 hsc
    go_wp2
    go_loopw [10] (fun vj wr2=>∃(j' m2:Nat),vj=.int .i64 j'∧j'≤j∧i'≤j'+1∧wr2=putRow en (Sort.ahead w m2) blk off dk∧
     Hid (scanDown (fun x=>aj dk[a]! x) dk i' j'=scanDown (fun x=>aj dk[a]! x) dk i' j)) (fun vj _=>(aN vj).toNat)
    case atStart=>exact⟨j,mU,rfl,Nat.le_refl _,hij',FD.out,rfl⟩
    case round=>
     obtain⟨j',m2,rfl,hjj,hij2,hw2,hsd⟩:=hrel;have hcw:∀t,t<d.size→wr.cell? ⟨blk,off+t,none⟩=some (en (G t)):=fun t ht=>by
      rw[hw2,HG.out];exact cell?_putRow _ _ _ _ d dk (holds_ahead _ _ _ _ _ _ HH.out) hsk t (by omega)
     have hfw:∀t,t<d.size→wr.frozen? ⟨blk,off+t,none⟩=false:=fun t ht=>by
      rw[hw2,frozen?_putRow];exact((holds_ahead _ _ m2 _ _ _ HH.out) t ht).2
     have HW2:=ae hw2;clear hw2;by_cases hle2:i'≤j'
     ·exfalso;omega
     ·have vY:¬(i':Int)≤j':=by omega
      have hj2:Hid (j'=scanDown (fun x=>aj dk[a]! x) dk i' j):=(scanDown_end (fun x=>aj dk[a]! x) dk i' j' (Or.inl hle2)).symm.trans hsd.out;have hgt:(j':Int)<i':=by omega
      have hv:Sort.partitionEqual aj d a b pivot=(i',dk):=by
       unfold Sort.partitionEqual;rw[←hE.out];exact partEq_break aj a i j dk hi2.out hj2.out (by omega)
      have HV:=ae hv;clear hv
      go_wp2
      go_quiet (first|(go_at_call 230;refine Calls.quiet_of_same (less _ _ _)))
      go_wp2
      go_ret
      exact⟨by rw[HV.out];rfl,m2+nq,by rw[HV.out,HW2.out];exact putRow_drewN _ _ _ _ _ _ _⟩
end Go.Proofs.YtjiehhlghjnfhaaGreatDoor.aC
namespace Go.Proofs.YtjiehhlghjnfhaaGreatDoor.aC
open Go.RowKit Go.Sort Go.Proofs.YtjiehhlghjnfhaaGreatDoor
set_option maxRecDepth 100000 in
theorem aeF (rb ro X:Nat) (hX:X<18446744073709551616) (w:World) (hc:w.cell? ⟨rb,ro,none⟩=some (.int .u64 X)) (hf:w.frozen? ⟨rb,ro,none⟩=false):
 Calls Tryz.prog 242 #[.pointer (some ⟨rb,ro,none⟩)] w fun e w'=>e=.returned (.int .u64 (xorNextN X:Nat))∧w'=(w.setCell ⟨rb,ro,none⟩ (.int .u64 (xorNextN X:Nat))).drewN 3:=by
 obtain⟨Y,hY⟩:∃Y:Nat,Y=X^^^(X*8192%18446744073709551616):=⟨_,rfl⟩
 obtain⟨Z,hZ⟩:∃Z:Nat,Z=Y^^^(Y/128):=⟨_,rfl⟩
 obtain⟨V,hV⟩:∃V:Nat,V=Z^^^(Z*131072%18446744073709551616):=⟨_,rfl⟩
 have lY:Y<18446744073709551616:=by rw[hY];exact Nat.xor_lt_two_pow (n:=64) (by omega) (by omega)
 have lZ:Z<18446744073709551616:=by rw[hZ];exact Nat.xor_lt_two_pow (n:=64) (by omega) (by omega)
 have s1:bits .xor .u64 (X:Int) (IntKind.u64.wrap ((X:Int)*8192))=(Y:Int):=by
  have e:IntKind.u64.wrap ((X:Int)*8192)=((X*8192%18446744073709551616:Nat):Int):=by rw[IntKind.wrap_u64];omega
  rw[e,bits_xor_u64_nat _ _ hX (by omega),hY]
 have s2:bits .xor .u64 (Y:Int) ((Y:Int)/128)=(Z:Int):=by
  have e:((Y:Int)/128)=((Y/128:Nat):Int):=by omega
  rw[e,bits_xor_u64_nat _ _ lY (by omega),hZ]
 have s3:bits .xor .u64 (Z:Int) (IntKind.u64.wrap ((Z:Int)*131072))=(V:Int):=by
  have e:IntKind.u64.wrap ((Z:Int)*131072)=((Z*131072%18446744073709551616:Nat):Int):=by rw[IntKind.wrap_u64];omega
  rw[e,bits_xor_u64_nat _ _ lZ (by omega),hV]
 have hv:xorNextN X=V:=by unfold xorNextN;simp only[];rw[←hY,←hZ,←hV]
 rw[hv];clear hY hZ hV hv;have once:∀v v',(w.setCell ⟨rb,ro,none⟩ v).setCell ⟨rb,ro,none⟩ v'=w.setCell ⟨rb,ro,none⟩ v':=setCell_setCell w rb ro
 go_enter Tryz.func242,Tryz.ntmps242
 go_wp2
 go_region
 all_goals go_wp2
 all_goals go_region
 all_goals go_wp2
 all_goals go_region
 all_goals go_wp2
 go_ret
 exact⟨rfl,rfl⟩
theorem aeG (n:Nat) (hn:n<4611686018427387904) (w:World):
 Calls Tryz.prog 241 #[.int .i64 n] w fun e w'=>e=.returned (.int .u64 ((1<<<bitsLen n:Nat):Int))∧w'=w:=by
 have hl:=Tryz.bits_Len (n:Int) w (by omega) (by omega);rw[Int.toNat_natCast,bitLen_eq _ (by omega)]at hl;have hk:bitsLen n≤62:=(bitsLen_le_iff n 62).2 (by omega);have hp:IntKind.u64.wrap ((2:Int)^bitsLen n)=((1<<<bitsLen n:Nat):Int):=by exact wrap_two_pow (bitsLen n) hk
 have HP:=ae hp;clear hp
 go_enter Tryz.func241,Tryz.ntmps241
 go_wp2_with(go_at_call 200;refine hl.mono ?_;rintro e w' ⟨rfl,rfl⟩)
 go_ret
 refine⟨?_,rfl⟩;rw[←HP.out];rfl
set_option maxRecDepth 100000 in
theorem UF (blk off cap a L:Nat) (d:Array Nat) (w:World) (hH:Holds en w blk off d) (hblk:blk<w.heap.size) (hb:a+L≤d.size) (hsz:d.size<4611686018427387904) (h8:8≤L):
 Calls Tryz.prog 226 #[.slice (some ⟨blk,off,none⟩) d.size cap,.int .i64 a,.int .i64 ((a+L:Nat):Int)] w fun e w'=>
  e=.returned (.tuple #[])∧At en w blk off (breakPatterns d a (a+L)) w':=by
 rw[breakPatterns_eq d a L h8];obtain⟨M,hM⟩:∃M:Nat,M=1<<<bitsLen L:=⟨_,rfl⟩
 have hM1:1≤M:=by rw[hM,Nat.one_shiftLeft];exact Nat.two_pow_pos _
 have hM2:M≤2*L:=by rw[hM,Nat.one_shiftLeft];exact two_pow_bitsLen_le (by omega)
 have hpw:=fun w=>aeG L (by omega) w
 rw[←hM]at hpw ⊢;have Jm:=ae hpw;clear hM hpw;have hst:∀T,w.alloc (Obj.cells #[.int .u64 (L:Int)] T)=grow (putRow en (Sort.ahead w 0) blk off d) #[Obj.cells #[.int .u64 ((UInt64.ofNat L).toNat:Int)] T]:=fun T=>by
  have e:(UInt64.ofNat L).toNat=L:=by simp;omega
  rw[ahead_zero,putRow_self _ _ _ _ _ hH,alloc_eq_grow,e]
 have HH:=ae hH;have HST:=ae hst;have hLe:(a:Int)+(L:Int)-(a:Int)=(L:Int):=by omega
 clear hH hst
 go_enter Tryz.func226,Tryz.ntmps226
 go_wp2_with(go_at_call 241;(try rw[hLe]);refine(Jm.out _).mono ?_;rintro e w' ⟨rfl,rfl⟩)
 clear Jm
 go_loopw [9] (fun vi wr=>∃(t n:Nat) (r:UInt64) (dk:Array Nat) (T:TypeId),vi=.int .i64 ((a+L/4*2-1+t:Nat):Int)∧t≤3∧dk.size=d.size∧
  wr=grow (putRow en (Sort.ahead w n) blk off dk) #[Obj.cells #[.int .u64 (r.toNat:Int)] T]∧
  Hid (bpRest a L M (a+L/4*2-1) (3-t) t (r,dk)=bpRest a L M (a+L/4*2-1) 3 0 (UInt64.ofNat L,d))) (fun vi _=>a+L/4*2+3-(aN vi).toNat)
 case atStart=>exact⟨0,0,UInt64.ofNat L,d,_,by congr 1;omega,by omega,rfl,HST.out _,rfl⟩
 case round=>
  clear HST;obtain⟨t,n,r,dk,T,rfl,ht,hsk,hw,HR⟩:=hrel;obtain⟨R,hR⟩:∃R:Nat,R=r.toNat:=⟨_,rfl⟩
  have lR:R<18446744073709551616:=by rw[hR];exact r.toNat_lt
  obtain⟨R',hR'⟩:∃R':Nat,R'=xorNextN R:=⟨_,rfl⟩
  have lR':R'<18446744073709551616:=by rw[hR'];exact xorNextN_lt R lR
  obtain⟨O,hO⟩:∃O:Nat,O=R'&&&(M-1):=⟨_,rfl⟩
  have lO:O≤M-1:=by rw[hO];exact Nat.and_le_right
  have eAnd:bits .and .u64 (R':Int) ((M:Int)-1)=(O:Int):=by
   have e:((M:Int)-1)=((M-1:Nat):Int):=by omega
   rw[e,bits_and_u64_nat _ _ lR' (by omega),hO]
  have hz:(putRow en (Sort.ahead w n) blk off dk).heap.size=w.heap.size:=by simp
  obtain⟨G,hG⟩:∃G:Nat→Nat,∀x,G x=dk[x]! :=⟨fun x=>dk[x]!,fun _=>rfl⟩
  have hcw:∀x,x<d.size→wr.cell? ⟨blk,off+x,none⟩=some (en (G x)):=fun x hx=>by
   rw[hw,cell?_grow _ _ _ (by rw[hz];exact hblk),hG];exact cell?_putRow _ _ _ _ d dk (holds_ahead _ _ _ _ _ _ HH.out) hsk x (by omega)
  have hfw:∀x,x<d.size→wr.frozen? ⟨blk,off+x,none⟩=false:=fun x hx=>by
   rw[hw,frozen?_grow _ _ _ (by rw[hz];exact hblk),frozen?_putRow];exact((holds_ahead _ _ n _ _ _ HH.out) x hx).2
  have hcB:wr.cell? ⟨w.heap.size,0,none⟩=some (.int .u64 (R:Int)):=by rw[hw,hR,←hz];exact grow_one_cell _ _ _
  have hfB:wr.frozen? ⟨w.heap.size,0,none⟩=false:=by rw[hw,←hz];exact grow_one_frozen _ _ _
  have hNx:=aeF w.heap.size 0 R lR wr hcB hfB;rw[←hR']at hNx;have HN:Hid (R'=(xorNext r).toNat∧O=(xorNext r).toNat&&&(M-1)):=by
   have e:R'=(xorNext r).toNat:=by rw[hR',hR,xorNext_toNat]
   exact⟨e,by rw[hO,e]⟩
  have HNx:=ae hNx;have HW:=ae hw;have HG:=ae hG;clear hw hG hR hR' hO hNx
  go_wp2_with(go_at_call 242;refine HNx.out.mono ?_;rintro e w' ⟨rfl,rfl⟩)
  ·have hLO:L≤O:=by omega
   obtain⟨po,hpo⟩:∃po,O-L=po:=⟨_,rfl⟩
   have Jn:Hid ((if(xorNext r).toNat&&&(M-1)≥L then((xorNext r).toNat&&&(M-1))-L else(xorNext r).toNat&&&(M-1))=po):=by
    show _=_;rw[←HN.out.2,if_pos (by omega),hpo]
   have hpi:(O:Int)-(L:Int)=(po:Int):=by omega
   simp only[hpi];by_cases hEq:a+L/4*2-1+t=a+po
   all_goals
        go_region
        all_goals go_wp2
        go_roundw
        case rel=>
         refine⟨t+1,n+4,xorNext r,Sort.swp dk (a+L/4*2-1+t) (a+po),T,by first|rfl|(congr 1<;>omega),by omega,by rw[size_swp];exact hsk,?_,?_⟩
         ·(try rw[hEq])
          rw[HW.out,HN.out.1];simp only[HG.out];exact step_world en w n 4 blk off dk _ _ hblk (by omega) (by omega) _ _ _
         ·show _=_;rw[←HR.out,bp_step a L M _ t r dk po (by omega) Jn.out]
        case measure=>first|(simp[aN];done)|(simp[aN];omega)
  ·have hLO:¬L≤O:=by omega
   obtain⟨po,hpo⟩:∃po,po=O:=⟨_,rfl⟩
   subst hpo;have Jn:Hid ((if(xorNext r).toNat&&&(M-1)≥L then((xorNext r).toNat&&&(M-1))-L else(xorNext r).toNat&&&(M-1))=po):=by
    show _=_;rw[←HN.out.2,if_neg (by omega)]
   by_cases hEq:a+L/4*2-1+t=a+po
   all_goals
        go_region
        all_goals go_wp2
        go_roundw
        case rel=>
         refine⟨t+1,n+4,xorNext r,Sort.swp dk (a+L/4*2-1+t) (a+po),T,by first|rfl|(congr 1<;>omega),by omega,by rw[size_swp];exact hsk,?_,?_⟩
         ·(try rw[hEq])
          rw[HW.out,HN.out.1];simp only[HG.out];exact step_world en w n 4 blk off dk _ _ hblk (by omega) (by omega) _ _ _
         ·show _=_;rw[←HR.out,bp_step a L M _ t r dk po (by omega) Jn.out]
        case measure=>first|(simp[aN];done)|(simp[aN];omega)
  ·obtain rfl:t=3:=by omega
   go_end0
   exact⟨rfl,n,_,by rw[←HR.out,HW.out];rfl⟩
set_option maxRecDepth 100000 in
theorem aaA (blk off cap a b:Nat) (d:Array Nat) (w:World) (hH:Holds en w blk off d) (hblk:blk<w.heap.size) (hab:a≤b) (hb:b≤d.size) (hsz:d.size<4611686018427387904):
 Calls Tryz.prog 226 #[.slice (some ⟨blk,off,none⟩) d.size cap,.int .i64 a,.int .i64 b] w fun e w'=>
  e=.returned (.tuple #[])∧Rw w blk off (breakPatterns d a b) w':=by
 obtain⟨L,rfl⟩:∃L,b=a+L:=⟨b-a,by omega⟩
 by_cases h8:8≤L
 ·exact(UF blk off cap a L d w hH hblk hb hsz h8).mono fun e w' h=>⟨h.1,Rw.ac1 hblk h.2⟩
 ·have hv:breakPatterns d a (a+L)=d:=by unfold breakPatterns;simp only[Nat.add_sub_cancel_left];rw[if_neg h8]
  rw[hv];have HST:=ae (Rw.refl hH hblk);clear hH
  go_enter Tryz.func226,Tryz.ntmps226
  go_wp2
  go_end0
  exact⟨rfl,HST.out⟩
end Go.Proofs.YtjiehhlghjnfhaaGreatDoor.aC
namespace Go.Proofs.YtjiehhlghjnfhaaGreatDoor.aC
open Go.RowKit Go.Sort Go.Proofs.YtjiehhlghjnfhaaGreatDoor
structure Opened (dk:Array Nat) (a b lim:Nat) (wb wp:Bool) (D1 D2 D3:Array Nat) (L C1 PV:Nat) (C2 HT:Hint) (dn:Bool):Prop where
 brk:wb=false→D1=breakPatterns dk a b∧L=lim-1
 nob:wb=true→D1=dk∧L=lim
 abI:L≤lim
 piv:choosePivot aj D1 a b=(C1,C2)
 dec:C2=.decreasing→D2=reverseRange D1 a b∧PV=(b-1)-(C1-a)∧HT=.increasing
 abJ:C2≠.decreasing→D2=D1∧PV=C1∧HT=C2
 par:(wb&&wp&&decide (HT=.increasing))=true→partialInsertionSort aj D2 a b=(D3,dn)
 nop:(wb&&wp&&decide (HT=.increasing))=false→D3=D2∧dn=false
 s1:D1.size=dk.size
 s2:D2.size=dk.size
 s3:D3.size=dk.size
 c1:a≤C1∧C1<b
 pv:a≤PV∧PV<b
 done:dn=true→pdq aj dk a b lim wb wp=D3
 peq:dn=false→(decide (a>0)&& !aj D3[a-1]! D3[PV]!)=true→∀mid D4,partitionEqual aj D3 a b PV=(mid,D4)→
  a<mid∧mid≤b∧D4.size=dk.size∧Below aj mid b D4∧pdq aj dk a b lim wb wp=pdq aj D4 mid b L wb wp
 prt:dn=false→(decide (a>0)&& !aj D3[a-1]! D3[PV]!)=false→∀mid ap D4,partition aj D3 a b PV=(mid,ap,D4)→
  a≤mid∧mid<b∧D4.size=dk.size∧Below aj a mid D4∧Below aj (mid+1) b D4∧
  (mid-a<b-mid→∃E,E=pdq aj D4 a mid L true true∧E.size=dk.size∧Below aj (mid+1) b E∧pdq aj dk a b lim wb wp=pdq aj E (mid+1) b L (decide (mid-a≥(b-a)/8)) ap)∧
  (¬mid-a<b-mid→∃E,E=pdq aj D4 (mid+1) b L true true∧E.size=dk.size∧Below aj a mid E∧pdq aj dk a b lim wb wp=pdq aj E a mid L (decide (b-mid≥(b-a)/8)) ap)
theorem opened {dk:Array Nat} {a b lim:Nat} {wb wp:Bool} (h12:¬b-a≤12) (hl:¬lim=0) (hb:b≤dk.size) (hB:Below aj a b dk):
 ∃D1 D2 D3 L C1 PV C2 HT dn,Opened dk a b lim wb wp D1 D2 D3 L C1 PV C2 HT dn:=by
 obtain⟨s1,B1,c1,s2,B2,pv,s3,B3⟩:=rd_facts (limit:=lim) (wb:=wb) (wp:=wp) nV partialInsertionSort_holds reverseRange_holds (show a<b by omega) hb hB
 refine⟨(Sort.rd aj dk a b lim wb wp).d1,(Sort.rd aj dk a b lim wb wp).d2,(Sort.rd aj dk a b lim wb wp).pi.1,(Sort.rd aj dk a b lim wb wp).lim,(Sort.rd aj dk a b lim wb wp).c.1,(Sort.rd aj dk a b lim wb wp).pivot,(Sort.rd aj dk a b lim wb wp).c.2,(Sort.rd aj dk a b lim wb wp).hint,(Sort.rd aj dk a b lim wb wp).pi.2,
  {brk:=fun h=>by subst h;exact⟨rfl,rfl⟩
   nob:=fun h=>by subst h;exact⟨rfl,rfl⟩
   abI:=rd_lim_le
   piv:=rfl
   dec:=fun h=>rd_dec h
   abJ:=fun h=>rd_not h
   par:=fun h=>(rd_pi_yes h).symm
   nop:=fun h=>by rw[rd_pi_no h];exact⟨rfl,rfl⟩
   s1:=s1,s2:=s2,s3:=s3,c1:=c1,pv:=pv
   done:=fun h=>pdq_done h12 hl h
   peq:=fun h h2 mid D4 hx=> ?_
   prt:=fun h h2 mid ap D4 hx=> ?_}⟩
 ·have h2':=h2;simp only[Bool.and_eq_true,decide_eq_true_eq,Bool.not_eq_true']at h2';obtain⟨r1,r2,r3,r4,_⟩:=round_eq nV (partitionEqual_holds aj) h2'.1 pv.1 pv.2 (by rw[s3];exact hb) B3 h2'.2 hx;exact⟨r1,r2,r3.trans s3,r4,by rw[pdq_eq h12 hl h h2 (by rw[hx];exact⟨r1,r2⟩),hx]⟩
 ·obtain⟨r1,r2,r3,r4,r5,r6,r7⟩:=round_part nV (partition_holds aj) pv.1 pv.2 (by rw[s3];exact hb) B3 hx;have hd4:D4.size=dk.size:=r3.trans s3;refine⟨r1,r2,hd4,r4,r5,fun h4=> ?_,fun h4=> ?_⟩
  ·obtain⟨pL,sL⟩:=pdq_sorts aj nV D4 a mid (Sort.rd aj dk a b lim wb wp).lim true true (by omega) (by omega) r4;exact⟨_,rfl,pL.1.trans hd4,(r6 _ pL sL).1,by rw[pdq_left h12 hl h h2 (by rw[hx];exact⟨r1,r2⟩) (by rw[hx];exact h4),hx]⟩
  ·obtain⟨pL,sL⟩:=pdq_sorts aj nV D4 (mid+1) b (Sort.rd aj dk a b lim wb wp).lim true true (by omega) (by omega) r5;exact⟨_,rfl,pL.1.trans hd4,(r7 _ pL sL).1,by rw[pdq_right h12 hl h h2 (by rw[hx];exact⟨r1,r2⟩) (by rw[hx];exact h4),hx]⟩
end Go.Proofs.YtjiehhlghjnfhaaGreatDoor.aC
namespace Go.Proofs.YtjiehhlghjnfhaaGreatDoor.aC
open Go.RowKit Go.Sort Go.Proofs.YtjiehhlghjnfhaaGreatDoor
theorem Nb {x y p q:Nat} (h1:q≤p) (h2:y≤x):decide (((x:Int)-(y:Int))/8≤(p:Int)-(q:Int))=decide (p-q≥(x-y)/8):=
 decide_eq_decide.2 ⟨fun h=>by omega,fun h=>by omega⟩
theorem PQ {h:Hint} (e:yZ h=2):h=.decreasing:=by cases h<;>simp[yZ]at e ⊢
set_option maxRecDepth 1000000 in
theorem aeH:∀(N blk off cap a b limit:Nat) (d:Array Nat) (w:World),b-a<N→Holds en w blk off d→blk<w.heap.size→a≤b→b≤d.size→d.size<2305843009213693952→limit<4611686018427387904→Below aj a b d→
 Calls Tryz.prog 199 #[.slice (some ⟨blk,off,none⟩) d.size cap,.int .i64 a,.int .i64 b,.int .i64 limit] w fun e w'=>e=.returned (.tuple #[])∧Rw w blk off (pdq aj d a b limit true true) w':=by
 intro N;induction N with
 |zero=>intro _ _ _ _ _ _ _ _ h;exact absurd h (Nat.not_lt_zero _)
 |succ N ih=>
  intro blk off cap a b limit d w hN hH0 aeI hab hb hsz hlimit hB0;have HH:=ae hH0;have IH:=ae ih;have HR0:=ae (Rw.refl hH0 aeI);clear ih hH0
  go_enter Tryz.func199,Tryz.ntmps199
  go_wp2
  go_loopg [1,2,3,8,9] (b-a) (fun k s1 s2 s3 s8 s9 wr=>∃(a' b' lim:Nat) (wb wp:Bool) (dk:Array Nat),s1=.int .i64 a'∧s2=.int .i64 b'∧s3=.int .i64 lim∧s8=.bool wb∧s9=.bool wp∧
   a'≤b'∧b'≤d.size∧b'-a'≤k∧k≤b-a∧lim≤limit∧dk.size=d.size∧Below aj a' b' dk∧Rw w blk off dk wr∧Hid (pdq aj d a b limit true true=pdq aj dk a' b' lim wb wp))
  case atStart=>exact⟨a,b,limit,true,true,d,rfl,rfl,rfl,rfl,rfl,hab,hb,Nat.le_refl _,Nat.le_refl _,Nat.le_refl _,rfl,hB0,HR0.out,rfl⟩
  case round=>
   clear HR0;obtain⟨a',b',lim,wb,wp,dk,rfl,rfl,rfl,rfl,rfl,hab',hb',hk,hkN,hlim,hds,hBel,PR,HE⟩:=hrel;have hHk:Holds en wr blk off dk:=PR.holds HH.out hds;by_cases h12:b'-a'≤12
   ·have h12z:(b':Int)-(a':Int)≤12:=by omega
    have hc:=insertion blk off cap a' b' dk wr hHk hab' (by omega) (by omega);rw[hds]at hc;have HC:=ae hc;clear hc hHk
    go_wp2_with(go_at_call 224;refine HC.out.mono ?_;rintro e w1 ⟨rfl,hw1⟩)
    (try simp only[Exit.inBlock,Exit.then]);refine bodyPost_ret (results_none rfl _ _ _) rfl ?_
    refine⟨rfl,?_⟩;rw[HE.out,pdq_small h12];exact PR.put (insertionSort_holds nV dk a' b' hab' (by omega)).1.1 hw1
   ·have h12z:¬((b':Int)-(a':Int)≤12):=by omega
    by_cases hl0:lim=0
    ·subst hl0;have hc:=ac2 blk off cap a' b' dk wr hHk hab' (by omega) (by omega);rw[hds]at hc;have HC:=ae hc;clear hc hHk
     go_wp2_with(go_at_call 225;refine HC.out.mono ?_;rintro e w1 ⟨rfl,hw1⟩)
     (try simp only[Exit.inBlock,Exit.then]);refine bodyPost_ret (results_none rfl _ _ _) rfl ?_
     refine⟨rfl,?_⟩;rw[HE.out,pdq_heap h12 rfl];exact PR.put (heapSort_holds nV dk a' b' hab' (by omega)).1.1 hw1
    ·have hl0z:¬((lim:Int)=0):=by omega
     obtain⟨D1,D2,D3,L,C1,PV,C2,HT,dn,O⟩:=opened (wb:=wb) (wp:=wp) h12 hl0 (show b'≤dk.size by omega) hBel;have hlL:=O.abI;have hs1:=O.s1.trans hds;have hs2:=O.s2.trans hds;have hs3:=O.s3.trans hds;have hc1:=O.c1;have hpv:=O.pv
     go_upto_if 35 with fail
     go_cut [3]from 19 (fun s3 wc=>s3=.int .i64 L∧Rw w blk off D1 wc)
     case first=>
      cases wb with
      |false=>
       obtain⟨e1,e2⟩:=O.brk rfl;have hc:=aaA blk off cap a' b' dk wr hHk PR.blk hab' (by omega) (by omega);rw[hds,←e1]at hc;have HC:=ae hc;have hLi:(lim:Int)-1=(L:Int):=by omega
       clear hc hHk e1 e2
       go_wp2_with(go_at_call 226;refine HC.out.mono ?_;rintro e w1 ⟨rfl,hw1⟩)
       go_meet
       case rel=>exact⟨by first|rfl|rw[hLi]|(congr 1),PR.trans O.s1 hw1⟩
      |true=>
       obtain⟨e1,e2⟩:=O.nob rfl;subst e1 e2
       go_wp2_with fail
       go_meet
       case rel=>exact⟨by first|rfl|trivial,PR⟩
     case rest=>
      obtain⟨rfl,Q8⟩:=hcut;clear PR hHk;have hc:=Gl blk off cap a' b' D1 wc (Q8.holds HH.out hs1) Q8.blk (by omega) (by omega) (by omega);rw[O.piv,hs1]at hc;have HC:=ae hc;clear hc
      go_upto_if 50 with(go_at_call 227;refine HC.out.mono ?_;rintro e w2 ⟨rfl,hw2⟩)
      have Q9:Rw w blk off D1 w2:=Q8.old hw2;clear HC hw2 Q8
      go_cut [11,12]from 19 (fun s11 s12 wc=>s11=.int .i64 PV∧s12=.int .i64 (yZ HT)∧Rw w blk off D2 wc)
      case first=>
       by_cases hh:C2=.decreasing
       ·obtain⟨e1,e2,e3⟩:=O.dec hh;have hc:=UA blk off cap a' b' D1 w2 (Q9.holds HH.out hs1) hab' (by omega) (by omega);rw[hs1,←e1]at hc;have HC:=ae hc;have hpi:(b':Int)-1-((C1:Int)-(a':Int))=(PV:Int):=by omega
        subst hh e3;have hcode:yZ .decreasing=2:=rfl;clear hc e1 e2
        go_wp2_with(go_at_call 228;refine HC.out.mono ?_;rintro e w3 ⟨rfl,hw3⟩)
        go_meet
        case rel=>exact⟨by first|rfl|rw[hpi],rfl,Q9.put (by rw[hs2,hs1]) hw3⟩
       ·have hcode:¬(yZ C2=2):=fun h=>hh (PQ h)
        obtain⟨e1,e2,e3⟩:=O.abJ hh;subst e1 e2 e3
        go_wp2_with fail
        go_meet
        case rel=>exact⟨rfl,rfl,Q9⟩
      case rest=>
       obtain⟨rfl,rfl,Nc⟩:=hcut;clear Q9
       go_upto_region 15 with fail
       go_cut [68]from 19 (fun s68 wx=>s68=.bool (wb&&wp&&decide (HT=.increasing))∧wx=wc)
       case first=>
        cases wb<;>cases wp<;>cases HT<;>
             (simp only[yZ]
              go_wp2_with fail
              go_meet
              exact⟨by simp,rfl⟩)
       case rest=>
        obtain⟨rfl,rfl⟩:=hcut
        go_upto_if 68 with fail
        go_cut []from 19 (fun wx=>dn=false∧Rw w blk off D3 wx)
        case first=>
         cases h68:(wb&&wp&&decide (HT=.increasing))with
         |false=>
          obtain⟨e1,e2⟩:=O.nop h68;subst e1 e2
          go_wp2_with fail
          go_meet
          case rel=>exact⟨by first|rfl|trivial,Nc⟩
         |true=>
          have hc:=UE blk off cap a' b' D2 wc (Nc.holds HH.out hs2) (by omega) (by omega) (by omega);rw[O.par h68,hs2]at hc;have HC:=ae hc;clear hc;cases dn with
          |false=>
           go_wp2_with(go_at_call 229;refine HC.out.mono ?_;rintro e w4 ⟨rfl,hw4⟩)
           go_meet
           case rel=>exact⟨by first|rfl|trivial,Nc.put (by rw[hs3,hs2]) hw4⟩
          |true=>
           go_wp2_with(go_at_call 229;refine HC.out.mono ?_;rintro e w4 ⟨rfl,hw4⟩)
           (try simp only[Exit.inBlock,Exit.then]);refine bodyPost_ret (results_none rfl _ _ _) rfl ?_
           refine⟨rfl,?_⟩;rw[HE.out,O.done rfl];exact Nc.put (by rw[hs3,hs2]) hw4
        case rest=>
         obtain⟨rfl,Q_⟩:=hcut;clear Nc;obtain⟨G,hG⟩:∃G:Nat→Nat,∀t,G t=D3[t]! :=⟨fun t=>D3[t]!,fun _=>rfl⟩
         have hH5:=Q_.holds HH.out hs3;have hcw:∀t,t<d.size→wc.cell? ⟨blk,off+t,none⟩=some (en (G t)):=fun t ht=>by rw[hG];exact(hH5 t (by omega)).1
         have hfw:∀t,t<d.size→wc.frozen? ⟨blk,off+t,none⟩=false:=fun t ht=>(hH5 t (by omega)).2
         have HG:=ae hG;clear hG hH5;obtain⟨c87,h87⟩:∃c,(decide (a'>0)&& !aj D3[a'-1]! D3[PV]!)=c:=⟨_,rfl⟩
         have H87:=ae h87;clear h87
         go_upto_region 17 with fail
         go_cut [87]from 19 (fun s87 wx=>s87=.bool c87∧Rw w blk off D3 wx)
         case first=>
          rcases Nat.eq_zero_or_pos a' with ha0|ha0
          ·have ha0z:decide ((a':Int)>0)=false:=decide_eq_false (by omega)
           go_big_quiet (first|(go_at_call 230;refine Calls.quiet_of_same (less _ _ _)))
           go_wp2_with fail
           go_meet
           case rel=>exact⟨by rw[←H87.out];simp[ha0],Q_.old ⟨rfl,rfl,rfl,Nat.le_refl _,fun _ _ _=>rfl⟩⟩
          ·have ha0z:(a':Int)>0:=by omega
           go_big_quiet (first|(go_at_call 230;refine Calls.quiet_of_same (less _ _ _)))
           go_wp2_with fail
           go_meet
           case rel=>exact⟨by rw[←H87.out,←HG.out,←HG.out];simp[ha0],Q_.old ⟨rfl,rfl,rfl,Nat.le_refl _,fun _ _ _=>rfl⟩⟩
         case rest=>
          obtain⟨rfl,Rf⟩:=hcut;clear hcw hfw Q_;have hH6:=Rf.holds HH.out hs3;cases c87 with
          |false=>
           obtain⟨mid,ap,D4,hx⟩:∃mid ap D4,partition aj D3 a' b' PV=(mid,ap,D4):=⟨_,_,_,rfl⟩
           obtain⟨r1,r2,r3,r4,r5,r6,r7⟩:=O.prt rfl H87.out mid ap D4 hx;have hc:=ac5 blk off cap a' b' PV D3 wc hH6 hpv.1 hpv.2 (by omega) (by omega);rw[hx,hs3]at hc;have HC:=ae hc;have hs4:=r3.trans hds;have O2:=O;clear hc hx hH6 O
           go_upto_if 113 with(go_at_call 232;refine HC.out.mono ?_;rintro e w7 ⟨rfl,hw7⟩)
           have Nh:Rw w blk off D4 w7:=Rf.put (by rw[hs4,hs3]) hw7;have hH7:=Nh.holds HH.out hs4;clear hw7 Rf HC;by_cases h4:mid-a'<b'-mid
           ·have h4z:(mid:Int)-(a':Int)<(b':Int)-(mid:Int):=by omega
            obtain⟨E,rfl,q1,q2,q3⟩:=r6 h4;clear r6 r7;have hc:=IH.out blk off cap a' mid L D4 w7 (by omega) hH7 Nh.blk (by omega) (by omega) (by omega) (by omega) r4;rw[hs4]at hc;have HC:=ae hc;have HQ:=ae q3;have I9:=ae q2;have X5:=ae (q1.trans hds);clear hc q1 q2 q3 hH7
            go_wp2_with(go_at_call 199;refine HC.out.mono ?_;rintro e w8 ⟨rfl,hw8⟩)
            go_roundg (b'-(mid+1))
            case measure=>omega
            case rel=>
             refine⟨mid+1,b',L,decide (mid-a'≥(b'-a')/8),ap,_,by simp,rfl,rfl,?_,rfl,by omega,by omega,Nat.le_refl _,by omega,by omega,X5.out,I9.out,Nh.trans (by rw[X5.out,hs4]) hw8,?_⟩
             ·exact congrArg Value.bool (Nb (by omega) (by omega))
             ·show _=_;rw[HE.out,HQ.out]
           ·have h4z:¬((mid:Int)-(a':Int)<(b':Int)-(mid:Int)):=by omega
            obtain⟨E,rfl,q1,q2,q3⟩:=r7 h4;clear r6 r7;have hc:=IH.out blk off cap (mid+1) b' L D4 w7 (by omega) hH7 Nh.blk (by omega) (by omega) (by omega) (by omega) r5;rw[hs4]at hc;have HC:=ae hc;have HQ:=ae q3;have I9:=ae q2;have X5:=ae (q1.trans hds);clear hc q1 q2 q3 hH7
            go_wp2_with(go_at_call 199;refine HC.out.mono ?_;rintro e w8 ⟨rfl,hw8⟩)
            go_roundg (mid-a')
            case measure=>omega
            case rel=>
             refine⟨a',mid,L,decide (b'-mid≥(b'-a')/8),ap,_,rfl,rfl,rfl,?_,rfl,by omega,by omega,Nat.le_refl _,by omega,by omega,X5.out,I9.out,Nh.trans (by rw[X5.out,hs4]) hw8,?_⟩
             ·exact congrArg Value.bool (Nb (by omega) (by omega))
             ·show _=_;rw[HE.out,HQ.out]
          |true=>
           obtain⟨mid,D4,hx⟩:∃mid D4,partitionEqual aj D3 a' b' PV=(mid,D4):=⟨_,_,rfl⟩
           obtain⟨r1,r2,r3,r4,r5⟩:=O.peq rfl H87.out mid D4 hx;have hc:=X4 blk off cap a' b' PV D3 wc hH6 hpv.1 hpv.2 (by omega) (by omega);rw[hx,hs3]at hc;have HC:=ae hc;have HQ:=ae r5;have hs4:=r3.trans hds;clear hc hx hH6 O r5
           go_wp2_with(go_at_call 231;refine HC.out.mono ?_;rintro e w7 ⟨rfl,hw7⟩)
           go_roundg (b'-mid)
           case measure=>omega
           case rel=>exact⟨mid,b',L,wb,wp,D4,rfl,rfl,rfl,rfl,rfl,r2,hb',Nat.le_refl _,by omega,by omega,hs4,r4,Rf.put (by rw[hs4,hs3]) hw7,by show _=_;rw[HE.out,HQ.out]⟩
theorem UG:XY 2305843009213693951:=fun blk cap limit d w hH hb hs hl=>by
 exact aeH (d.size+1) blk 0 cap 0 d.size limit d w (by omega) hH hb (Nat.zero_le _) (Nat.le_refl _) (by omega) hl (.inl rfl)
end Go.Proofs.YtjiehhlghjnfhaaGreatDoor.aC
