/- What a block of memory holds, what a call leaves as it was, how a slice reads, and the law on one append: lemmas that name no function. -/
import Derived.WalkKit
import Derived.WalkLawsBesides
import Derived.WalkSpells
import Derived.Lib.Hide
import Derived.Deep.OwnRows
import Derived.Deep.RegionLaw
import Derived.ProofKit
import Derived.OpenShut
import Derived.Deep.Slices
import Derived.Deep.Strs
import Derived.Test.YtjiehhlghjnfhaaGreatDoorProg
import Derived.Lib.TrailingZeros
import Derived.Laws.Bits64b
import Derived.BigGuard
import Derived.BigCall
import Derived.Test.YtjiehhlghjnfhaaGreatDoorCards
import Derived.Test.YtjiehhlghjnfhaaGreatDoorTie
import Derived.Deep.DeepHandedRow
import Derived.Lib.LaidTab
import Derived.Lib.Strings
import Derived.Maps.AppendAt
import Derived.Deep.QuietTactic
import Derived.BigQuiet
import Derived.Test.YtjiehhlghjnfhaaGreatDoorShelf
import Derived.Lib.Builder
import Derived.Lib.AppendStr
import Derived.Laws.BytesArg
import Derived.StillTail
set_option linter.unusedVariables false
set_option linter.unusedSimpArgs false
set_option maxHeartbeats 1000000
namespace Go.Proofs.YtjiehhlghjnfhaaGreatDoor
open Go.RowKit
abbrev afz:Array Go.Value:=#[.int .i64 0, .int .i64 0, .int .u32 0, .int .u32 0, .int .u64 0, .int .u64 0, .int .u64 0, .int .u64 0, .int .i64 0, .int .u64 0, .int .u64 0, .int .u64 0, .int .u64 0, .int .u64 0, .int .u64 0, .int .u64 0, .int .u64 0, .int .u64 0, .int .u64 0, .int .u64 0, .int .u64 0, .int .u64 0, .int .u64 0, .int .u64 0, .int .u64 0, .int .u64 0, .int .u64 0, .int .u64 0, .int .u64 0, .int .u64 0, .int .u64 0, .int .u64 0, .int .u64 0, .int .u64 0, .int .u64 0, .int .u64 0, .int .u64 0, .int .u64 0, .int .u64 0, .int .u64 0, .int .u64 0, .int .u64 0]
abbrev afA:List Go.Value:=[.int .i64 0, .int .i64 0, .int .u32 0, .int .u32 0, .int .u64 0, .int .u64 0, .int .u64 0, .int .u64 0, .int .i64 0, .int .u64 0, .int .u64 0, .int .u64 0, .int .u64 0, .int .u64 0, .int .u64 0, .int .u64 0, .int .u64 0, .int .u64 0, .int .u64 0, .int .u64 0, .int .u64 0, .int .u64 0, .int .u64 0, .int .u64 0, .int .u64 0, .int .u64 0, .int .u64 0, .int .u64 0, .int .u64 0, .int .u64 0, .int .u64 0, .int .u64 0, .int .u64 0, .int .u64 0, .int .u64 0, .int .u64 0, .int .u64 0, .int .u64 0, .int .u64 0, .int .u64 0, .int .u64 0, .int .u64 0]
abbrev afB:List Go.Value:=[.int .i64 2, .int .i64 0, .int .u32 0, .int .u32 0, .int .u64 0, .int .u64 0, .int .u64 0, .int .u64 0, .int .i64 0, .int .u64 0, .int .u64 0, .int .u64 0, .int .u64 0, .int .u64 0, .int .u64 0, .int .u64 0, .int .u64 0, .int .u64 0, .int .u64 0, .int .u64 0, .int .u64 0, .int .u64 0, .int .u64 0, .int .u64 0, .int .u64 0, .int .u64 0, .int .u64 0, .int .u64 0, .int .u64 0, .int .u64 0, .int .u64 0, .int .u64 0, .int .u64 0, .int .u64 0, .int .u64 0, .int .u64 0, .int .u64 0, .int .u64 0, .int .u64 0, .int .u64 0, .int .u64 0, .int .u64 0]
abbrev afC:List Go.Value:=[.int .i64 4, .int .i64 0, .int .u32 0, .int .u32 0, .int .u64 0, .int .u64 0, .int .u64 0, .int .u64 0, .int .i64 0, .int .u64 0, .int .u64 0, .int .u64 0, .int .u64 0, .int .u64 0, .int .u64 0, .int .u64 0, .int .u64 0, .int .u64 0, .int .u64 0, .int .u64 0, .int .u64 0, .int .u64 0, .int .u64 0, .int .u64 0, .int .u64 0, .int .u64 0, .int .u64 0, .int .u64 0, .int .u64 0, .int .u64 0, .int .u64 0, .int .u64 0, .int .u64 0, .int .u64 0, .int .u64 0, .int .u64 0, .int .u64 0, .int .u64 0, .int .u64 0, .int .u64 0, .int .u64 0, .int .u64 0]
abbrev afD:List Go.Value:=[.int .i64 5, .int .i64 0, .int .u32 0, .int .u32 0, .int .u64 0, .int .u64 0, .int .u64 0, .int .u64 0, .int .i64 0, .int .u64 0, .int .u64 0, .int .u64 0, .int .u64 0, .int .u64 0, .int .u64 0, .int .u64 0, .int .u64 0, .int .u64 0, .int .u64 0, .int .u64 0, .int .u64 0, .int .u64 0, .int .u64 0, .int .u64 0, .int .u64 0, .int .u64 0, .int .u64 0, .int .u64 0, .int .u64 0, .int .u64 0, .int .u64 0, .int .u64 0, .int .u64 0, .int .u64 0, .int .u64 0, .int .u64 0, .int .u64 0, .int .u64 0, .int .u64 0, .int .u64 0, .int .u64 0, .int .u64 0]
abbrev afE:List Go.Value:=[.int .i64 3, .int .i64 0, .int .u32 0, .int .u32 0, .int .u64 0, .int .u64 0, .int .u64 0, .int .u64 0, .int .i64 0, .int .u64 0, .int .u64 0, .int .u64 0, .int .u64 0, .int .u64 0, .int .u64 0, .int .u64 0, .int .u64 0, .int .u64 0, .int .u64 0, .int .u64 0, .int .u64 0, .int .u64 0, .int .u64 0, .int .u64 0, .int .u64 0, .int .u64 0, .int .u64 0, .int .u64 0, .int .u64 0, .int .u64 0, .int .u64 0, .int .u64 0, .int .u64 0, .int .u64 0, .int .u64 0, .int .u64 0, .int .u64 0, .int .u64 0, .int .u64 0, .int .u64 0, .int .u64 0, .int .u64 0]
abbrev afF:Array Go.Value:=#[.int .u32 0, .int .i64 0, .int .u32 0, .int .i64 0, .int .u16 0, .int .u16 65535, .int .u32 1]
abbrev afG:Array Go.Value:=#[.int .i64 0, .int .i64 0, .int .i64 0, .int .i64 0, .int .i64 0, .int .u64 0, .int .i64 0, .int .u64 0, .int .u64 0, .int .u64 0, .slice none 0 0]
abbrev afH:Array Go.Value:=#[.int .u32 0, .int .u32 0, .int .u64 0, .int .i32 0, .bool false, .bool false]
theorem ae {p:Prop} (h:p):Go.RowKit.Hid p:=h
theorem aY {α:Type}:(∀(xs:List α) (i:Nat) (a:α),xs.toArray.setIfInBounds i a=(xs.set i a).toArray)∧(∀(a:α) (l:List α) (n:Nat) (b:α),(a::l).set (n+1) b=a::l.set n b)∧∀(a:α) (l:List α) (b:α),(a::l).set 0 b=b::l:=
 ⟨fun _ _ _=>List.setIfInBounds_toArray ..,fun _ _ _ _=>List.set_cons_succ,fun _ _ _=>List.set_cons_zero⟩
theorem bn {α:Type}:(∀(a:α) (l:List α) (n:Nat),(a::l)[n+1]? =l[n]?)∧(∀(a:α) (l:List α),(a::l)[0]? =some a)∧(∀(a:α) (l:List α) (n:Nat),(a::l).drop (n+1)=l.drop n)∧∀l:List α,l.drop 0=l:=
 ⟨fun _ _ _=>List.getElem?_cons_succ,fun _ _=>List.getElem?_cons_zero,fun _ _ _=>List.drop_succ_cons,fun _=>List.drop_zero⟩
structure ag (w:World) (b:Nat) (cs:List Value) (t:TypeId):Prop where
 is:w.heap[b]? =some (.cells cs.toArray t (0,0))
theorem ag.lt {w:World} {b:Nat} {cs:List Value} {t:TypeId} (h:ag w b cs t):b<w.heap.size:=
 (Array.getElem?_eq_some_iff.1 h.is).1
theorem ag.cell {w:World} {b:Nat} {cs:List Value} {t:TypeId} (h:ag w b cs t) (o:Nat) {v:Value} (hv:cs[o]? =some v):w.cell? ⟨b,o,none⟩=some v:=by
 simp[World.cell?,h.is,hv]
theorem ag.fz {w:World} {b:Nat} {cs:List Value} {t:TypeId} (h:ag w b cs t) (o:Nat):w.frozen? ⟨b,o,none⟩=false:=by
 simp[World.frozen?,h.is]
theorem ag.set {w:World} {b:Nat} {cs:List Value} {t:TypeId} (h:ag w b cs t) (o:Nat) (v:Value):ag (w.setCell ⟨b,o,none⟩ v) b (cs.set o v) t:=by
 constructor
 simp[World.setCell,Array.getElem?_modify,h.is]
theorem ag.bY {w:World} {b:Nat} {cs:List Value} {t:TypeId} (h:ag w b cs t) {a:Addr} (hne:b≠a.block) (v:Value):ag (w.setCell a v) b cs t:=
 ⟨(Below.heap_setCell _ _ _ _ hne).trans h.is⟩
theorem ag.alloc {w:World} {b:Nat} {cs:List Value} {t:TypeId} (h:ag w b cs t) (o:Obj):ag (w.alloc o) b cs t:=
 ⟨(Below.heap_alloc _ _ _ h.lt).trans h.is⟩
theorem jI (w:World) (o:Obj):(w.alloc o).heap[w.heap.size]? =some o:=by
 show(w.heap.push o)[w.heap.size]? =some o;simp
theorem ag.new (w:World) (cs:List Value) (t:TypeId):ag (w.alloc (.cells cs.toArray t)) w.heap.size cs t:=⟨jI _ _⟩
theorem ag.drew {w:World} {b:Nat} {cs:List Value} {t:TypeId} (h:ag w b cs t):ag w.drew b cs t:=⟨h.is⟩
theorem ag.drewN {w:World} {b:Nat} {cs:List Value} {t:TypeId} (h:ag w b cs t) (n:Nat):ag (w.drewN n) b cs t:=⟨h.is⟩
theorem ag.grown {w w':World} {b:Nat} {cs:List Value} {t:TypeId} {row:Option Nat} (h:ag w b cs t) (hg:w.grownBy w' row) (hne:some b≠row):ag w' b cs t:=
 ⟨(hg.block b h.lt hne).trans h.is⟩
theorem x_ (w:World) (o:Obj) (n:Nat) (h:n=w.heap.size):(w.alloc o).drew.heap[n]? =some o:=by subst h;exact jI w o
theorem ag.inj {w:World} {b:Nat} {cs cs':List Value} {t t':TypeId} (h:ag w b cs t) (h':ag w b cs' t'):cs=cs'∧t=t':=by
 have:=h.is.symm.trans h'.is;simp at this
 exact this
structure Kp (S:Nat→Prop) (w w':World):Prop where
 os:w'.os=w.os
 tape:w'.tape=w.tape
 output:w'.output=w.output
 size:w.heap.size≤w'.heap.size
 block:∀b,b<w.heap.size→¬S b→w'.heap[b]? =w.heap[b]?
abbrev none':Nat→Prop:=fun _=>False
theorem Kp.refl (S:Nat→Prop) (w:World):Kp S w w:=⟨rfl,rfl,rfl,Nat.le_refl _,fun _ _ _=>rfl⟩
theorem Kp.trans {S:Nat→Prop} {a b c:World} (h:Kp S a b) (k:Kp S b c):Kp S a c:=
 ⟨k.os.trans h.os,k.tape.trans h.tape,k.output.trans h.output,Nat.le_trans h.size k.size,fun i hi hs=>(k.block i (Nat.lt_of_lt_of_le hi h.size) hs).trans (h.block i hi hs)⟩
theorem Kp.then {S T:Nat→Prop} {a b c:World} (h:Kp S a b) (k:Kp T b c) (hT:∀i,i<a.heap.size→T i→S i):Kp S a c:=
 ⟨k.os.trans h.os,k.tape.trans h.tape,k.output.trans h.output,Nat.le_trans h.size k.size,fun i hi hs=>(k.block i (Nat.lt_of_lt_of_le hi h.size) (fun ht=>hs (hT i hi ht))).trans (h.block i hi hs)⟩
theorem Kp.mono {S T:Nat→Prop} {a b:World} (h:Kp S a b) (hT:∀i,i<a.heap.size→S i→T i):Kp T a b:=
 ⟨h.os,h.tape,h.output,h.size,fun i hi hs=>h.block i hi (fun x=>hs (hT i hi x))⟩
theorem Kp.alloc {S:Nat→Prop} {a w:World} (h:Kp S a w) (o:Obj):Kp S a (w.alloc o):=
 ⟨h.os,h.tape,h.output,by simp;have:=h.size;omega,fun i hi hs=>(Below.heap_alloc _ _ _ (Nat.lt_of_lt_of_le hi h.size)).trans (h.block i hi hs)⟩
theorem Kp.drew {S:Nat→Prop} {a w:World} (h:Kp S a w):Kp S a w.drew:=⟨h.os,h.tape,h.output,h.size,h.block⟩
theorem Kp.drewN {S:Nat→Prop} {a w:World} (h:Kp S a w) (n:Nat):Kp S a (w.drewN n):=⟨h.os,h.tape,h.output,h.size,h.block⟩
theorem Kp.set {S:Nat→Prop} {a w:World} (h:Kp S a w) {p:Addr} (hp:S p.block∨a.heap.size≤p.block) (u:Value):Kp S a (w.setCell p u):=
 ⟨h.os,h.tape,h.output,by simp[World.setCell];exact h.size,fun i hi hs=>(Below.heap_setCell _ _ _ _ (fun e=>by subst e;rcases hp with hp|hp;(exact hs hp);omega)).trans (h.block i hi hs)⟩
theorem Kp.grown {S:Nat→Prop} {a w w':World} {row:Option Nat} (h:Kp S a w) (hg:w.grownBy w' row) (hr:∀k,row=some k→S k∨a.heap.size≤k):Kp S a w':=
 ⟨hg.os.trans h.os,hg.tape.trans h.tape,hg.output.trans h.output,Nat.le_trans h.size hg.size,
  fun i hi hs=>(hg.block i (Nat.lt_of_lt_of_le hi h.size) (fun e=>by rcases hr i e.symm with h1|h1;(exact hs h1);omega)).trans (h.block i hi hs)⟩
theorem Kp.below {S:Nat→Prop} {w w':World} (h:Kp S w w') {B:Nat} (hB:B≤w.heap.size) (hS:∀b,b<B→¬S b):Below B w w':=
 ⟨h.os,h.tape,h.output,h.size,fun k hk=>h.block k (by omega) (hS k hk)⟩
theorem Kp.of_below {w w':World} {B:Nat} (h:Below B w w'):Kp (fun b=>B≤b) w w':=
 ⟨h.os,h.tape,h.output,h.size,fun b _ hs=>h.block b (by omega)⟩
theorem Kp.cell {S:Nat→Prop} {w w':World} (h:Kp S w w') {a:Addr} {v:Value} (hv:w.cell? a=some v) (hs:¬S a.block):w'.cell? a=some v:=
 (World.cell?_of_block (h.block _ (World.block_lt_of_cell? w a hv) hs)).trans hv
theorem ag.kp {S:Nat→Prop} {w w':World} {b:Nat} {cs:List Value} {t:TypeId} (h:ag w b cs t) (k:Kp S w w') (hs:¬S b):ag w' b cs t:=
 ⟨(k.block b h.lt hs).trans h.is⟩
structure Sl (w:World) (v:Value) (n sz:Nat) (cs:List Value):Prop where
 len:cs.length=n*sz
 max:n≤9223372036854775807
 is:∃ao cap,v=.slice ao n cap∧∀i u,cs[i]? =some u→∃b off,ao=some ⟨b,off,none⟩∧w.cell? ⟨b,off+i,none⟩=some u
theorem Sl.kp {S:Nat→Prop} {w w':World} {v:Value} {n sz:Nat} {cs:List Value} (h:Sl w v n sz cs) (k:Kp S w w') (hs:∀b,b<w.heap.size→v.ownBlock=some b→¬S b):Sl w' v n sz cs:=by
 obtain⟨ao,cap,rfl,hc⟩:=h.is;refine⟨h.len,h.max,ao,cap,rfl,fun i u hu=> ?_⟩;obtain⟨b,off,rfl,hcell⟩:=hc i u hu;exact⟨b,off,rfl,k.cell hcell (hs b (World.block_lt_of_cell? w _ hcell) rfl)⟩
theorem Sl.old {w w':World} {v:Value} {n sz:Nat} {cs:List Value} (h:Sl w v n sz cs) (k:Kp none' w w'):Sl w' v n sz cs:=h.kp k (fun _ _ _ h=>h)
theorem Sl.nil (w:World) (sz:Nat):Sl w (.slice none 0 0) 0 sz []:=⟨by simp,by omega,none,0,rfl,fun i u h=>by simp at h⟩
theorem zh {w:World} {base:Nat} {e:TypeId} {size:Nat} {v:Value} {n:Nat} {xs:List Value} (h:w.ownsRow base e size v n xs):Sl w v n size xs:=by
 obtain⟨hl,h⟩:=h;rcases h with⟨rfl,rfl⟩|⟨g,cap,cur,rfl,hg,hh,hn,hm,hs,ht⟩
 ·have:xs=[]:=by simpa using hl
  subst this;exact Sl.nil w size
 ·refine⟨hl,by unfold maxLen at hm;omega,_,cap,rfl,fun i u hu=>⟨g,0,rfl,?_⟩⟩;rw[←ht]at hu;have hi:i<n*size:=by
   have:=(List.getElem?_eq_some_iff.1 hu).1;simp at this;omega
  rw[List.getElem?_take,if_pos hi]at hu;simp only[World.cell?,hh,Nat.zero_add];simpa using hu
theorem dP {w:World} {base:Nat} {e:TypeId} {size:Nat} {v:Value} {n:Nat} {xs:List Value} (h:w.ownsRow base e size v n xs):∃ao cap,v=.slice ao n cap:=by
 rcases h.2 with⟨rfl,rfl⟩|⟨g,cap,cur,rfl,_⟩
 ·exact⟨_,_,rfl⟩
 ·exact⟨_,_,rfl⟩
theorem aG {w:World} {base:Nat} {e:TypeId} {size:Nat} {v:Value} {n:Nat} {xs:List Value} (h:w.ownsRow base e size v n xs) {b:Nat} (hb:v.ownBlock=some b):base≤b∧b<w.heap.size:=h.lt b hb
theorem aK {S:Nat→Prop} {w w':World} {base:Nat} {e:TypeId} {size:Nat} {v:Value} {n:Nat} {xs:List Value} (h:w.ownsRow base e size v n xs) (k:Kp S w w') (hs:∀b,v.ownBlock=some b→¬S b):w'.ownsRow base e size v n xs:=by
 refine⟨h.1,?_⟩;rcases h.2 with⟨rfl,rfl⟩|⟨g,cap,cur,rfl,hg,hh,r⟩
 ·exact .inl ⟨rfl,rfl⟩
 ·exact .inr ⟨g,cap,cur,rfl,hg,(k.block g (Array.getElem?_eq_some_iff.1 hh).1 (hs g rfl)).trans hh,r⟩
theorem own_base {w:World} {base base':Nat} {e:TypeId} {size:Nat} {v:Value} {n:Nat} {xs:List Value} (h:w.ownsRow base e size v n xs) (hb:base'≤base):w.ownsRow base' e size v n xs:=by
 refine⟨h.1,?_⟩;rcases h.2 with h|⟨g,cap,cur,hv,hg,r⟩
 ·exact .inl h
 ·exact .inr ⟨g,cap,cur,hv,by omega,r⟩
structure qY (P:Program) (t e:TypeId) (z:Value) (size bytes:Nat):Prop where
 ht:P.underlying t=some (.slice e)
 info:(P.info? e).map (fun i=>(i.zero,i.size,i.bytes))=some (some z,size,bytes)
 hz:z.cells.size=size
 pos:0<size
theorem pg {P:Program} {t e:TypeId} {z:Value} {size bytes:Nat} (T:qY P t e z size bytes) {ops:Array Oper} {rest:List Oper} {o:Oper} {a:Act} {Q:Exit→Act→World→Prop} {w:World} (s x:Operand)
 (hgd:o.guard=none) (ho:o.op=.call {callee:=.builtin .append,args:=#[s,x],argTypes:=#[t,t]}) (base:Nat) {v:Value} {n:Nat} {xs:List Value} (hown:w.ownsRow base e size v n xs)
 {b c:Nat} (news:List Value) (hs:a.eval s=v) (hx:a.eval x=.slice (some ⟨b,0,none⟩) 1 c) (hl:news.length=size) {fr:Nat×Nat} (hblk:w.heap[b]? =some (.cells news.toArray e fr)) (h1:news.all (·.oneCell')=true)
 (hbytes:(n+1)*bytes≤140737488355328) (h63:n<9223372036854775807) (hbase:base≤w.heap.size)
 (h:∀g cap w',w'.ownsRow base e size (.slice (some ⟨g,0,none⟩) (n+1) cap) (n+1) (xs++news)→w.grownBy w' v.ownBlock→wpList P ops Q rest (a.put o.dst (.slice (some ⟨g,0,none⟩) (n+1) cap)) w'):wpList P ops Q (o::rest) a w:=by
 obtain⟨i,hi,hz0,hz1,hz2⟩:=info_parts T.info;refine wpList_append_own w hgd s x t ho base e i z size bytes T.ht hi hz0 hz1 hz2 T.hz T.pos v n xs hs hown ⟨b,0,none⟩ 1 c news hx (by simpa using hl) ?_ (by simpa using h1) (by unfold maxLen;omega) hbytes hbase ?_
 ·intro j u hu;have e:(⟨b,0,none⟩:Addr).add j=⟨b,j,none⟩:=by unfold Addr.add;split<;>simp_all
  rw[e];simp[World.cell?,hblk,hu]
 ·intro v' w' hown' hg hnil;rcases hown'.2 with⟨_,h0⟩|⟨g,cap,cur,rfl,_⟩
  ·omega
  ·exact h g cap w' hown' hg
theorem Dq {P:Program} {t e:TypeId} {z:Value} {size bytes:Nat} (T:qY P t e z size bytes) {ops:Array Oper} {o:Oper} {a:Act} {w:World} {K:Act→World→Prop} {Q:Exit→Act→World→Prop} {E:Prop} (s x:Operand)
 (hgd:o.guard=none) (ho:o.op=.call {callee:=.builtin .append,args:=#[s,x],argTypes:=#[t,t]}) (base:Nat) {v:Value} {n:Nat} {xs:List Value} (hown:w.ownsRow base e size v n xs)
 {b c:Nat} (news:List Value) (hs:a.eval s=v) (hx:a.eval x=.slice (some ⟨b,0,none⟩) 1 c) (hl:news.length=size) {fr:Nat×Nat} (hblk:w.heap[b]? =some (.cells news.toArray e fr)) (h1:news.all (·.oneCell')=true)
 (hbytes:(n+1)*bytes≤140737488355328) (h63:n<9223372036854775807) (hbase:base≤w.heap.size)
 (h:∀g cap w',w'.ownsRow base e size (.slice (some ⟨g,0,none⟩) (n+1) cap) (n+1) (xs++news)→w.grownBy w' v.ownBlock→K (a.put o.dst (.slice (some ⟨g,0,none⟩) (n+1) cap)) w'):
 if Region.wanted o (yielded ops a.tmps)=true then Oper.wp P o a w K Q else E:=by
 have hw:Region.wanted o (yielded ops a.tmps)=true:=by simp[Region.wanted,hgd]
 rw[if_pos hw];obtain⟨i,hi,hz0,hz1,hz2⟩:=info_parts T.info;refine wp_append_own w s x t ho base e i z size bytes T.ht hi hz0 hz1 hz2 T.hz T.pos v n xs hs hown ⟨b,0,none⟩ 1 c news hx (by simpa using hl) ?_ (by simpa using h1) (by unfold maxLen;omega) hbytes hbase ?_
 ·intro j u hu;have e:(⟨b,0,none⟩:Addr).add j=⟨b,j,none⟩:=by unfold Addr.add;split<;>simp_all
  rw[e];simp[World.cell?,hblk,hu]
 ·intro v' w' hown' hg hnil;rcases hown'.2 with⟨_,h0⟩|⟨g,cap,cur,rfl,_⟩
  ·omega
  ·exact h g cap w' hown' hg
theorem wK {S:Nat→Prop} {w w':World} (h:∃d,w'=w.drewN d):Kp S w w':=by obtain⟨d,rfl⟩:=h;exact(Kp.refl S w).drewN d
theorem YT {P:Program} {f:FuncId} {args:Array Value} {w:World} {n:Nat} {v:Value} (h:Calls P f args (w.drewN n) fun e w'=>e=.returned v∧w.drewN n=w'):
 Calls P f args (w.drewN n) fun e w''=>e=.returned v∧∃m,w''=w.drewN m:=
 h.mono fun _ _ ⟨he,hm⟩=>⟨he,n,hm.symm⟩
theorem made1 (z:Value) (n:Nat):madeCells #[z] n=(List.replicate n z).toArray:=by
 apply Array.ext
 ·simp[madeCells]
 ·intro i h1 h2;simp[madeCells,Nat.mod_one]
theorem iH {a b:Bool} (h:a=b):Ending.returned (.bool a)=.returned (.bool b):=by rw[h]
theorem gB {k:IntKind} {a b:Int} (h:a=b):Ending.returned (.int k a)=.returned (.int k b):=by rw[h]
end Go.Proofs.YtjiehhlghjnfhaaGreatDoor
namespace Go.Proofs.YtjiehhlghjnfhaaGreatDoor
open Go.RowKit Go.Deep Go.ChangeShapes Go.WideShapes Go.ChangeAt
theorem add_plain (b off j:Nat):(⟨b,off,none⟩:Addr).add j=⟨b,off+j,none⟩:=by unfold Addr.add;split<;>simp_all
theorem JX {w:World} {a:Addr} {v:Value} (h:w.cell? a=some v):a=⟨a.block,a.off,none⟩:=by
 obtain⟨b,o,s⟩:=a;cases s with
 |none=>rfl
 |some s=>unfold World.cell? at h;split at h<;>simp at h
theorem flat_get {α:Type} (enc:α→List Value) (sz:Nat) (hl:∀a,(enc a).length=sz) (l:List α) (j i:Nat) (hi:i<sz):(l.flatMap enc)[j*sz+i]? =(l[j]?).bind (fun a=>(enc a)[i]?):=by
 induction l generalizing j with
 |nil=>simp
 |cons a r ih=>
  cases j with
  |zero=>simp only[List.flatMap_cons,Nat.zero_mul,Nat.zero_add];rw[List.getElem?_append_left (by rw[hl];exact hi)];simp
  |succ j=>
   rw[List.flatMap_cons,List.getElem?_append_right (by rw[hl,Nat.succ_mul];omega),hl,show(j+1)*sz+i-sz=j*sz+i by rw[Nat.succ_mul];omega,ih];simp
theorem dQ {α:Type} (enc:α→List Value) (sz:Nat) (hl:∀a,(enc a).length=sz) (l:List α):(l.flatMap enc).length=l.length*sz:=by
 induction l with
 |nil=>simp
 |cons a r ih=>simp only[List.flatMap_cons,List.length_append,hl,ih,List.length_cons,Nat.succ_mul];omega
theorem Sl.at {w:World} {v:Value} {n sz:Nat} {α:Type} {enc:α→List Value} {l:List α} (h:Sl w v n sz (l.flatMap enc)) (hl:∀a,(enc a).length=sz) (hp:0<sz) (j:Nat) (hj:j<l.length):
 ∃b off cap,v=.slice (some ⟨b,off,none⟩) n cap∧∀i u,(enc l[j])[i]? =some u→w.cell? ⟨b,off+j*sz+i,none⟩=some u:=by
 obtain⟨ao,cap,rfl,hc⟩:=h.is;have hg:∀i u,(enc l[j])[i]? =some u→(l.flatMap enc)[j*sz+i]? =some u:=fun i u hu=>by
  rw[flat_get enc sz hl l j i (by have:=(List.getElem?_eq_some_iff.1 hu).1;rw[hl]at this;exact this),List.getElem?_eq_getElem hj];exact hu
 obtain⟨u0,hu0⟩:∃u,(enc l[j])[0]? =some u:=⟨(enc l[j])[0]'(by rw[hl];exact hp),by simp⟩
 obtain⟨b,off,rfl,_⟩:=hc _ _ (hg 0 u0 hu0);refine⟨b,off,cap,rfl,fun i u hu=> ?_⟩;obtain⟨b',off',e,h2⟩:=hc _ _ (hg i u hu);cases e
 rw[Nat.add_assoc];exact h2
section
variable {H:Type} {enc:TypeId×Value→H} {P:Program} {w:World} {base:Nat} {spare:Nat→Bool} {held:Bool}
theorem NP {t e:TypeId} {fuel:Nat} {cs:List Value} {x:DataW H×List MemPlace} (ht:P.underlying t=some (.slice e)) {sz:Nat} (hsz:P.cellsOf e=sz) (hp:0<sz) {α:Type} [Inhabited α] (en:α→List Value) (ok:α→Prop) (hl:∀a,(en a).length=sz)
 (flat:∀n cs x,DataW.trod enc P w base spare held n e cs=some x→∃a,ok a∧cs=en a) (h:DataW.trod enc P w base spare held fuel t cs=some x):
 ∃(v:Value) (l:List α),cs=[v]∧(∀a∈l,ok a)∧Sl w v l.length sz (l.flatMap en):=by
 rcases open_slice ht h with⟨rfl,_⟩|⟨a,len,cap,m,n,D,Pl,rfl,hb,hlc,hm,hmm,_,hx⟩
 ·exact⟨_,[],rfl,by simp,Sl.nil w sz⟩
 ·have hlm:len≤m:=by rw[hmm];split<;>omega
  have hx':∀i,i<len→∃y:α,ok y∧w.cells? base (a.add (i*sz)) sz=some (en y):=fun i hi=>by
   obtain⟨cs',h1,h2⟩:=hx i (by omega);obtain⟨y,hy,rfl⟩:=flat _ _ _ h2;rw[hsz]at h1;exact⟨y,hy,h1⟩
  obtain⟨f,hf⟩:=choose_lt hx';refine⟨_,(List.range len).map f,rfl,fun y hy=> ?_,⟨?_,?_,some a,cap,?_,fun i u hu=> ?_⟩⟩
  ·obtain⟨i,hi,rfl⟩:=List.mem_map.1 hy;exact(hf i (List.mem_range.1 hi)).1
  ·exact dQ en sz hl _
  ·simp;unfold maxLen at hm;omega
  ·simp
  ·have hi:i<len*sz:=by
    have:=(List.getElem?_eq_some_iff.1 hu).1;rw[dQ en sz hl]at this;simpa using this
   have hj:i/sz<len:=(Nat.div_lt_iff_lt_mul hp).2 hi;have hr:i%sz<sz:=Nat.mod_lt _ hp;have hdm:i/sz*sz+i%sz=i:=by rw[Nat.mul_comm];exact Nat.div_add_mod i sz
   rw[←hdm,flat_get en sz hl _ _ _ hr]at hu;simp[hj]at hu
   obtain⟨_,h2,h3⟩:=World.cells?_some (hf (i/sz) hj).2;have h4:=h3 (i%sz) hr;have ha:a=⟨a.block,a.off,none⟩:=by
    obtain⟨_,_,h5⟩:=World.cells?_some (hf 0 (Nat.lt_of_le_of_lt (Nat.zero_le _) hj)).2;have h6:=h5 0 hp;have hl0:=hl (f 0);rw[List.getElem?_eq_getElem (by omega)]at h6;rw[Nat.zero_mul]at h6;have:(a.add 0).add 0=a:=by simp[Addr.add]
    rw[this]at h6;exact JX h6
   refine⟨a.block,a.off,by rw[←ha],?_⟩;rw[ha,add_plain,add_plain]at h4;rw[←hdm,←Nat.add_assoc,h4];simpa using hu
theorem Ir {t:TypeId} {fs:Array Field} {fuel:Nat} {cs:List Value} {x:DataW H×List MemPlace} (ht:P.underlying t=some (.struct fs)) (hsz:P.cellsOf t=fs.size) (hone:fs.toList.zipIdx.all (fun p=>p.1.offset==p.2)=true) (hc:∀f∈fs.toList,P.cellsOf f.type=1)
 (h:DataW.trod enc P w base spare held fuel t cs=some x):cs.length=fs.size∧∀(i:Nat) (f:Field) (v:Value),fs[i]? =some f→cs[i]? =some v→∃n y,DataW.trod enc P w base spare held n f.type [v]=some y:=by
 obtain⟨xs,n,_,_,hl,hlen,hf⟩:=DataW.trod_struct ht h;refine⟨by rw[hl,hsz],fun i f v hi hv=> ?_⟩;have h1:=hf i f hi;have ho:f.offset=i:=by
  have h2:=List.all_eq_true.1 hone (f,i) (by
   rw[List.mem_iff_getElem?];exact⟨i,by rw[List.getElem?_zipIdx];simp[hi]⟩)
  simpa using h2
 rw[ho,hc f (by have:=Array.mem_of_getElem? hi;simpa using this)]at h1;have hlt:i<cs.length:=(List.getElem?_eq_some_iff.1 hv).1;have e:(cs.drop i).take 1=[v]:=by
  rw[List.drop_eq_getElem_cons hlt,(List.getElem?_eq_some_iff.1 hv).2];rfl
 rw[e]at h1;have hx:i<xs.length:=by rw[hlen];exact(Array.getElem?_eq_some_iff.1 hi).1
 rw[List.getElem?_eq_getElem hx]at h1;exact⟨n,_,h1⟩
theorem NR (hl:laidOutB P=true):∀ {ts:List TypeId} {vs:List Value} {ds:List (DataW H)} {ps:List MemPlace} {W W':World},DataW.TrodAll enc P W 0 (fun _=>true) true ts vs ds ps→Below W.heap.size W W'→
 (∀x∈ps,x.block<W.heap.size)→(∀t∈ts,P.readableRec t=true∧t<P.types.size)→DataW.TrodAll enc P W' 0 (fun b=>decide (b<W.heap.size)) true ts vs ds ps:=by
 intro ts;induction ts with
 |nil=>
  intro vs ds ps W W' h _ _ _;obtain⟨rfl,rfl,rfl⟩:=trodAll_nil h;exact trodAll_mk0
 |cons t ts ih=>
  intro vs ds ps W W' h hb hlt hr;obtain⟨v0,vs0,d0,ds0,p0,q0,rfl,rfl,rfl,h0,r0⟩:=trodAll_cons h;refine trodAll_cons_mk (Below.trod hl (hr t (by simp)).1 (hr t (by simp)).2 h0 hb (fun x hx=>hlt x (List.mem_append.2 (.inl hx)))) (ih r0 hb (fun x hx=>hlt x (List.mem_append.2 (.inr hx))) (fun t ht=>hr t (List.mem_cons_of_mem _ ht)))
end
theorem RI {H:Type} {enc:TypeId×Value→H} {P:Program} {s:ChangeSpec} {f:Func} {apart fresh:Bool} {W W':World} {args:Array Value} {ds gs:List (DataW H)} {before:List MemPlace} (T:TypeId) (hT:P.underlying T=some .bool) (hres:f.resultTypes=#[T])
 (hl:laidOutB P=true) (hr:∀t∈f.params.toList,P.readableRec t=true∧t<P.types.size)
 (hv:s.vars=[]) (hW:DataW.Whole enc P f.params.toList s.vars apart W args.toList ds gs before) (hs:(s.fn H (ds++[]))= {results:=[.lit (.bool true)],args:=ds}) (hb:Below W.heap.size W W'):
 s.post enc P f apart fresh false false W args (.bool true) W':=by
 have hW':=hW;obtain⟨p,q,hA,hV,rfl,hfz,hnd⟩:=hW;rw[hv]at hV;obtain⟨rfl,rfl⟩:=trodVars_none hV;have hlt:∀x∈p,x.block<W.heap.size:=fun x hx=>by simpa using hW'.lt x (List.mem_append.2 (.inl hx))
 refine⟨ds,[],p++[],[],p,[],hW',?_,?_,?_,hb.frame _,fun h=>by cases h⟩
 ·rw[hs,hres];exact trodAll_cons_mk (shut_bool hT true) trodAll_mk0
 ·rw[hs];exact NR hl hA hb hlt hr
 ·rw[hs,hv];rfl
end Go.Proofs.YtjiehhlghjnfhaaGreatDoor
namespace Go.Proofs.YtjiehhlghjnfhaaGreatDoor
open Go.RowKit
def Tab (w:World):Prop:=∀j,j<64→w.cell? ⟨0,j,none⟩=some (.int .u8 (Lib.deBruijn64tab.getD j 0))
theorem Tab.kp {S:Nat→Prop} {w w':World} (h:Tab w) (k:Kp S w w') (hs:¬S 0):Tab w':=fun j hj=>k.cell (h j hj) hs
theorem U0 (x k idx:Nat) (w:World) (hx0:((x:Int)==0)=false)
 (key:IntKind.u64.wrap (bits BinOp.and IntKind.u64 (x:Int) (IntKind.u64.wrap (-(x:Int)))*285870213051353865)/288230376151711744=(idx:Int))
 (hi:idx<64) (hk:k<64) (hcell:w.cell? ⟨0,idx,none⟩=some (.int .u8 k)):
 Calls Tryz.prog 164 #[.int .u64 x] w fun e w'=>e=.returned (.int .i64 k)∧w=w':=by
 go_enter Tryz.func164,Tryz.ntmps164
 go_wp2_with(simp only[key])
 go_ret
 exact⟨rfl,rfl⟩
theorem U1 (w:World):Calls Tryz.prog 164 #[.int .u64 0] w fun e w'=>e=.returned (.int .i64 64)∧w=w':=by
 go_enter Tryz.func164,Tryz.ntmps164
 go_wp2
 go_ret
 exact⟨rfl,rfl⟩
theorem YU (x a:Nat) (hx:x<18446744073709551616) (hx0:x≠0) (hlow:x&&&(18446744073709551616-x)=a):
 IntKind.u64.wrap (bits BinOp.and IntKind.u64 (x:Int) (IntKind.u64.wrap (-(x:Int)))*285870213051353865)/288230376151711744=((a*285870213051353865%18446744073709551616/288230376151711744:Nat):Int):=by
 have e1:IntKind.u64.wrap (-(x:Int))=((18446744073709551616-x:Nat):Int):=by rw[IntKind.wrap_u64];omega
 rw[e1,bits_and_u64_nat x _ hx (by omega),hlow,IntKind.wrap_u64];omega
theorem tz (x:Nat) (hx:x<18446744073709551616) (w:World) (hT:Tab w):
 Calls Tryz.prog 164 #[.int .u64 x] w fun e w'=>e=.returned (.int .i64 (Lib.ctz 64 x))∧w=w':=by
 by_cases hx0:x=0
 ·subst hx0;exact U1 w
 ·obtain⟨m,hm,hk⟩:=Lib.ctzFrom_spec 64 x (by omega) hx;have e:Lib.ctz 64 x=Lib.ctzFrom 64 x:=by simp[Lib.ctz,hx0]
  have hlow:x&&&(18446744073709551616-x)=2^Lib.ctzFrom 64 x:=by
   have:=Lib.and_neg 64 (Lib.ctzFrom 64 x) m (by rw[←hm];exact hx);rw[←hm]at this;exact this
  rw[e];obtain⟨hi,htab⟩:=Lib.deBruijn64_at _ hk;have hcell:=hT _ hi;rw[htab]at hcell;exact U0 x _ _ w (by simp;omega) (YU x _ hx hx0 hlow) hi hk hcell
theorem ab_:ownKnob Tryz.prog.godebug=none:=by kernel_rfl
theorem gTab:Tryz.prog.globalNamed "math/bits.deBruijn64tab"=some 0:=by kernel_rfl
theorem RJ:(Tryz.prog.globals[0]?).map (·.type)=some 386:=by kernel_rfl
theorem RN:Tryz.prog.cellsOf 386=64:=by kernel_rfl
theorem U2:Tryz.prog.cellsOf 5=1:=by kernel_rfl
def Qi:List Int:=[0,1,56,2,57,49,28,3,61,58,42,50,38,29,17,4,62,47,59,36,45,43,51,22,53,39,33,30,24,18,12,5,63,55,48,27,60,41,37,16,46,35,44,21,52,32,23,11,54,26,40,15,34,20,31,10,25,14,19,9,13,8,7,6]
theorem YV {W:World} (h:laidMetH Tryz.prog [("math/bits.deBruijn64tab",Rows.laid_math_bits_deBruijn64tab)] W):Tab W:=by
 have ht:Lib.TabIs Tryz.prog W "math/bits.deBruijn64tab" .u8 Qi:=Lib.tabIs_of_head (rest:=[]) gTab RJ Tryz.underlying386 Tryz.underlying5 U2 RN h
 intro j hj;have:=ht.cell gTab j hj;have e:Qi.getD j 0=((Lib.deBruijn64tab.getD j 0:Nat):Int):=(by decide:∀j,j<64→Qi.getD j 0=((Lib.deBruijn64tab.getD j 0:Nat):Int)) j hj;rw[this,e]
noncomputable def laidWorld (os:Os):World:=
 {World.holding Tryz.prog os ⟨#[],#[],[]⟩with heap:=(World.holding Tryz.prog os ⟨#[],#[],[]⟩).heap.modify 0 fun
  | .cells _ t frozen=>.cells (Qi.map fun z=>Value.int .u8 z).toArray t frozen
  |o=>o}
theorem laid_met (os:Os) (args:Array Value):laidMet Tryz.prog [("math/bits.deBruijn64tab",Rows.laid_math_bits_deBruijn64tab)] ((laidWorld os).forCall (fun _ _=>0) ⟨#[],args,[]⟩).memory:=
 laidMet_of_run' 8 (by kernel_rfl) (by kernel_rfl)
end Go.Proofs.YtjiehhlghjnfhaaGreatDoor
namespace Go.Proofs.YtjiehhlghjnfhaaGreatDoor
open Go.RowKit Go.Deep Go.ChangeShapes Go.WideShapes Go.ChangeAt
end Go.Proofs.YtjiehhlghjnfhaaGreatDoor
namespace Go.Proofs.YtjiehhlghjnfhaaGreatDoor
open Go.RowKit
def bl (s:ByteArray):List UInt8:=s.data.toList
theorem aO (s:ByteArray):(bl s).length=s.size:=by simp[bl]
theorem Iu (s:ByteArray) (k:Nat) (h:k<s.size):(bl s)[k]'(by rw[aO];exact h)=s[k]:=rfl
theorem vw {a b:ByteArray} (h:bl a=bl b):a=b:=by
 cases a;cases b;simp[bl]at h;rw[h]
def tx (l:List UInt8):ByteArray:=⟨l.toArray⟩
theorem iI (l:List UInt8):bl (tx l)=l:=by simp[bl,tx]
theorem aca (s:ByteArray):tx (bl s)=s:=vw (iI _)
theorem nD (l:List UInt8):(tx l).size=l.length:=by rw[←aO,iI]
theorem kY (s:ByteArray) (a b:Nat):bl (s.extract a b)=((bl s).drop a).take (b-a):=Lib.extract_data s a b
end Go.Proofs.YtjiehhlghjnfhaaGreatDoor
namespace Go.Proofs.YtjiehhlghjnfhaaGreatDoor
def be:Nat→Nat→List UInt8
 |0,_=>[]
 |w+1,n=>be w (n/256)++[UInt8.ofNat (n%256)]
theorem Iw (w:Nat):∀n,(be w n).length=w:=by
 induction w with
 |zero=>intro n;rfl
 |succ w ih=>intro n;simp[be,ih]
end Go.Proofs.YtjiehhlghjnfhaaGreatDoor
namespace Go.Proofs.YtjiehhlghjnfhaaGreatDoor
open Go.RowKit
structure kF where
 ds:Nat
 id:Nat
 eX:Nat
 s:Nat
 d:Nat
 sp:Nat
 p:Nat
instance:Inhabited kF:=⟨⟨0,0,0,0,0,0,0⟩⟩
def fO (h:kF):List Value:=[.int .u8 h.ds,.int .u16 h.id,.int .u8 h.eX,.int .u32 h.s,.int .u32 h.d,.int .u16 h.sp,.int .u16 h.p]
structure kF.Ok (h:kF):Prop where
 s:h.s<4294967296
 d:h.d<4294967296
 p:h.p<65536
structure kF.Fit (h:kF):Prop where
 ok:h.Ok
 ds:h.ds<256
 id:h.id<65536
 eX:h.eX<256
 sp:h.sp<65536
end Go.Proofs.YtjiehhlghjnfhaaGreatDoor
namespace Go.Proofs.YtjiehhlghjnfhaaGreatDoor
def kG (a b:Nat):Nat:=(a+b)/65536+(a+b)%65536
def kZ:Nat→List UInt8→Nat
 |n,[]=>n
 |n,[a]=>kG n (a.toNat*256)
 |n,a::b::r=>kZ (kG n (a.toNat*256+b.toNat)) r
def mf (l:List UInt8):Nat:=65535-kZ 0 l%65536
theorem zi {a b:Nat} (ha:a≤131071) (hb:b≤131071):kG a b≤131071:=by unfold kG;omega
theorem Gz:∀(l:List UInt8) (n:Nat),n≤131071→kZ n l≤131071
 | [],n,h=>h
 | [a],n,h=>by unfold kZ;have:=UInt8.toNat_lt a;exact zi h (by omega)
 |a::b::r,n,h=>by unfold kZ;have:=UInt8.toNat_lt a;have:=UInt8.toNat_lt b;exact Gz r _ (zi h (by omega))
theorem RQ (l:List UInt8):mf l<65536:=by unfold mf;omega
def kH (l:List UInt8) (k:Nat):Nat:=kZ 0 (l.take (2*k))
theorem yc:∀(l r:List UInt8) (n:Nat),l.length%2=0→kZ n (l++r)=kZ (kZ n l) r
 | [],_,_,_=>rfl
 | [a],_,_,h=>by simp at h
 |a::b::l,r,n,h=>by
  show kZ _ (l++r)=kZ (kZ _ l) r;exact yc l r _ (by simp at h ⊢;omega)
theorem JY {l:List UInt8} {k:Nat} (h:2*k+1<l.length):kH l (k+1)=kG (kH l k) ((l[2*k]'(by omega)).toNat*256+(l[2*k+1]).toNat):=by
 unfold kH;have e:l.take (2*(k+1))=l.take (2*k)++[l[2*k]'(by omega),l[2*k+1]]:=by
  have h1:=List.take_succ_eq_append_getElem (i:=2*k+1) h;have h2:=List.take_succ_eq_append_getElem (i:=2*k) (show 2*k<l.length by omega);rw[show 2*(k+1)=2*k+1+1 by omega,h1,h2,List.append_assoc];rfl
 rw[e,yc _ _ _ (by rw[List.length_take];omega)];rfl
theorem JZ {l:List UInt8} {k:Nat} (h:l.length=2*k+1):kZ 0 l=kG (kH l k) ((l[2*k]'(by omega)).toNat*256):=by
 unfold kH;have e:l=l.take (2*k)++[l[2*k]'(by omega)]:=by
  conv=>lhs;rw[←List.take_append_drop (2*k) l]
  congr 1
  rw[List.drop_eq_getElem_cons (by omega:2*k<l.length),List.drop_eq_nil_of_le (by omega)]
 conv=>lhs;rw[e]
 rw[yc _ _ _ (by rw[List.length_take];omega)];rfl
theorem Dt {l:List UInt8} {k:Nat} (h:l.length≤2*k):kZ 0 l=kH l k:=by
 unfold kH;rw[List.take_of_length_le h]
def hf (l:List UInt8) (k:Nat):Nat:=(l.getD k 0).toNat*256+(l.getD (k+1) 0).toNat
def wd (l:List UInt8) (k:Nat):Nat:=hf l k*65536+hf l (k+2)
theorem mg (l:List UInt8) (k:Nat):hf l k<65536:=by
 unfold hf;have:=UInt8.toNat_lt (l.getD k 0);have:=UInt8.toNat_lt (l.getD (k+1) 0);omega
theorem U3 (l:List UInt8) (k:Nat):wd l k<4294967296:=by
 unfold wd;have:=mg l k;have:=mg l (k+2);omega
def qH (h:kF) (n:Nat):List UInt8:=be 2 (17664+h.ds*4)++(be 2 (n+28)++(be 2 h.id++(be 2 0++be 2 (h.eX*256+17))))
def vz (h:kF):List UInt8:=be 2 (h.s/65536)++(be 2 (h.s%65536)++(be 2 (h.d/65536)++be 2 (h.d%65536)))
def jY (h:kF) (body:List UInt8):List UInt8:=
 qH h body.length++(be 2 (mf (qH h body.length++([0,0]++vz h)))++(vz h++(be 2 h.sp++(be 2 h.p++(be 2 (body.length+8)++(be 2 0++body))))))
def t_ (l:List UInt8):Bool:=decide ((l.getD 0 0).toNat=69)&&(decide ((l.getD 1 0).toNat%4=0)&&(decide (hf l 2=l.length)&&(decide (hf l 6=0)&&(decide ((l.getD 9 0).toNat=17)&&(decide (hf l 24+20=l.length)&&decide (hf l 26=0))))))
def Du (l:List UInt8):List UInt8:=l.take 10++([0,0]++(l.drop 12).take 8)
def bZ (l:List UInt8):Int:=if l.length<28 then 2 else if t_ l=false then 3 else if hf l 10=mf (Du l)then 0 else 11
def dV (l:List UInt8):kF:=⟨(l.getD 1 0).toNat/4,hf l 4,(l.getD 8 0).toNat,wd l 12,wd l 16,hf l 20,hf l 22⟩
def GH (sum was is:Nat):Nat:=65535-kG (kG (65535-sum) (65535-was)) is%65536
def cutAt (l:List UInt8) (k:Nat) (x:Nat):List UInt8:=l.take k++(be 2 x++l.drop (k+2))
def AV (l:List UInt8) (k:Nat) (x:Nat):List UInt8:=cutAt (cutAt l k x) 10 (GH (hf l 10) (hf l k) x)
def jh (l:List UInt8):Int:=if bZ l≠0 then bZ l else if(l.getD 8 0).toNat<2 then 21 else 0
def lU (l:List UInt8):List UInt8:=AV l 8 (hf l 8-256)
def acb (l:List UInt8) (d:Nat):Int:=if 63<d then 6 else bZ l
def acd (l:List UInt8) (d:Nat):List UInt8:=AV l 0 (17664+d*4)
theorem yg {l:List UInt8} {k:Nat} (h:k+2≤l.length) (x:Nat):(cutAt l k x).length=l.length:=by
 unfold cutAt;simp only[List.length_append,List.length_take,List.length_drop,Iw];omega
end Go.Proofs.YtjiehhlghjnfhaaGreatDoor
namespace Go.Proofs.YtjiehhlghjnfhaaGreatDoor
open Go.RowKit
theorem dJ {w:World} {base:Nat} {e:TypeId} {size:Nat} {v:Value} {n:Nat} {xs:List Value} (h:w.ownsRow base e size v n xs) (hn:0<n):∃g cap,v=.slice (some ⟨g,0,none⟩) n cap∧base≤g:=by
 rcases h.2 with⟨_,h⟩|⟨g,cap,cur,hv,hg,_⟩
 ·omega
 ·exact⟨g,cap,hv,hg⟩
theorem eY {w:World} {base:Nat} {e:TypeId} {size:Nat} {n g cap:Nat} {xs:List Value} (h:w.ownsRow base e size (.slice (some ⟨g,0,none⟩) n cap) n xs) (i:Nat) {u:Value} (hu:xs[i]? =some u):w.cell? ⟨g,i,none⟩=some u:=by
 obtain⟨ao,cap',hv,hc⟩:=(zh h).is;obtain⟨b,off,e1,h1⟩:=hc i u hu;cases hv
 cases e1
 rw[Nat.zero_add]at h1;exact h1
theorem mZ {w:World} {base:Nat} {e:TypeId} {size:Nat} {n g cap:Nat} {xs:List Value} (h:w.ownsRow base e size (.slice (some ⟨g,0,none⟩) n cap) n xs) (i:Nat):w.frozen? ⟨g,i,none⟩=false:=by
 rcases h.2 with⟨h,_⟩|⟨g',cap',cur,hv,_,hh,_⟩
 ·cases h
 ·cases hv;simp[World.frozen?,hh]
theorem r_ {w:World} {base:Nat} {e:TypeId} {size:Nat} {n g cap:Nat} {xs:List Value} (h:w.ownsRow base e size (.slice (some ⟨g,0,none⟩) n cap) n xs) (j:Nat) (u:Value):(w.setCell ⟨g,j,none⟩ u).ownsRow base e size (.slice (some ⟨g,0,none⟩) n cap) n (xs.set j u):=(h.stored j u).1
theorem dX {w:World} {base:Nat} {e:TypeId} {size:Nat} {v:Value} {n:Nat} {xs:List Value} (h:w.ownsRow base e size v n xs) {a:Addr} (hne:∀b,v.ownBlock=some b→b≠a.block) (u:Value):(w.setCell a u).ownsRow base e size v n xs:=by
 refine⟨h.1,?_⟩;rcases h.2 with h|⟨g,cap,cur,rfl,hg,hh,r⟩
 ·exact .inl h
 ·exact .inr ⟨g,cap,cur,rfl,hg,(Below.heap_setCell _ _ _ _ (hne g rfl)).trans hh,r⟩
theorem su {w:World} {base:Nat} {e:TypeId} {size:Nat} {v:Value} {n:Nat} {xs:List Value} (h:w.ownsRow base e size v n xs) {b:Nat} (hb:v.ownBlock=some b):∃cur,w.heap[b]? =some (.cells cur e (0,0)):=by
 rcases h.2 with⟨rfl,_⟩|⟨g,cap,cur,rfl,hg,hh,r⟩
 ·cases hb
 ·cases hb;exact⟨cur,hh⟩
theorem az {w:World} {base:Nat} {e:TypeId} {size:Nat} {v:Value} {n:Nat} {xs:List Value} (h:w.ownsRow base e size v n xs) {b:Nat} {cs:List Value} {t:TypeId} (hb:ag w b cs t) (ht:t≠e):v.ownBlock≠some b:=fun hv=>by
 obtain⟨cur,hh⟩:=su h hv;have:=hb.is.symm.trans hh;simp at this;exact ht this.2
theorem vC {w:World} {base base':Nat} {e e':TypeId} {size size':Nat} {v v':Value} {n n':Nat} {xs xs':List Value} (h:w.ownsRow base e size v n xs) (h':w.ownsRow base' e' size' v' n' xs') (ht:e≠e'):∀b,v.ownBlock=some b→v'.ownBlock≠some b:=fun b hv hv'=>by
 obtain⟨cur,hh⟩:=su h hv;obtain⟨cur',hh'⟩:=su h' hv';have:=hh.symm.trans hh';simp at this;exact ht this.2
theorem iV {w:World} {b b':Nat} {cs cs':List Value} {t t':TypeId} (h:ag w b cs t) (h':ag w b' cs' t') (ht:t≠t'):b≠b':=fun e=>by subst e;exact ht (h.inj h').2
def gG (l:List Value) (o:Nat):List Value→List Value
 | []=>l
 |v::r=>gG (l.set o v) (o+1) r
theorem lg (vs:List Value):∀(l:List Value) (o i:Nat),o+vs.length≤l.length→(gG l o vs)[i]? =if o≤i∧i<o+vs.length then vs[i-o]? else l[i]? :=by
 induction vs with
 |nil=>intro l o i _;simp[gG];intro h1 h2;omega
 |cons v r ih=>
  intro l o i h;simp only[List.length_cons]at h;rw[gG,ih _ _ _ (by simp;omega)];by_cases h1:o+1≤i∧i<o+1+r.length
  ·rw[if_pos h1,if_pos ⟨by omega,by simp;omega⟩];rw[show i-o=(i-(o+1))+1 by omega];simp
  ·rw[if_neg h1];by_cases h2:i=o
   ·subst h2;rw[if_pos ⟨by omega,by simp⟩,List.getElem?_set_self (by omega)];simp
   ·rw[if_neg (by simp;omega),List.getElem?_set_ne (fun e=>h2 e.symm)]
theorem jJ {α:Type} (en:α→List Value) (sz:Nat) (hl:∀a,(en a).length=sz) (l:List α) (j:Nat) (a:α) (hj:j<l.length):(l.set j a).flatMap en=gG (l.flatMap en) (j*sz) (en a):=by
 apply List.ext_getElem?
 intro i;have hlen:=dQ en sz hl l;have hjs:j*sz+sz≤l.length*sz:=by rw[←Nat.succ_mul];exact Nat.mul_le_mul_right _ hj
 rw[lg _ _ _ _ (by rw[hlen,hl];exact hjs),hl];by_cases hs:sz=0
 ·subst hs;have h0:∀m:List α,m.flatMap en=[]:=fun m=>List.eq_nil_of_length_eq_zero (by rw[dQ en 0 hl m];simp)
  rw[h0,h0];simp
 ·have hr:i%sz<sz:=Nat.mod_lt _ (by omega);have hdm:i/sz*sz+i%sz=i:=by rw[Nat.mul_comm];exact Nat.div_add_mod i sz
  have h1:=flat_get en sz hl (l.set j a) (i/sz) (i%sz) hr;have h2:=flat_get en sz hl l (i/sz) (i%sz) hr;rw[hdm]at h1 h2;rw[h1,h2];by_cases e:i/sz=j
  ·have c1:j*sz≤i∧i<j*sz+sz:=by rw[←e];omega
   rw[if_pos c1,e,List.getElem?_set_self hj];have:i-j*sz=i%sz:=by rw[←e];omega
   rw[this];rfl
  ·rw[if_neg,List.getElem?_set_ne (fun z=>e z.symm)];rintro⟨a1,a2⟩;apply e
   have b1:i/sz<j+1:=(Nat.div_lt_iff_lt_mul (by omega)).2 (by rw[Nat.succ_mul];exact a2);have b2:j≤i/sz:=(Nat.le_div_iff_mul_le (by omega)).2 a1;omega
theorem Dv {α:Type} (en:α→List Value) (sz:Nat) (hl:∀a,(en a).length=sz) (l:List α) (i:Nat) (a c:α) (j:Nat) (v:Value) (hj:j<sz) (hi:l[i]? =some c) (ha:en a=(en c).set j v):(l.set i a).flatMap en=(l.flatMap en).set (i*sz+j) v:=by
 have hil:=(List.getElem?_eq_some_iff.1 hi).1;have hlen:=dQ en sz hl l;have hjs:i*sz+sz≤l.length*sz:=by rw[←Nat.succ_mul];exact Nat.mul_le_mul_right _ hil
 rw[jJ en sz hl l i a hil];apply List.ext_getElem?
 intro k;rw[lg _ _ _ _ (by rw[hlen,hl];exact hjs),hl];by_cases h1:i*sz≤k∧k<i*sz+sz
 ·rw[if_pos h1,ha];obtain⟨m,rfl⟩:∃m,k=i*sz+m:=⟨k-i*sz,by omega⟩
  rw[Nat.add_sub_cancel_left];by_cases h2:m=j
  ·subst h2;rw[List.getElem?_set_self (by rw[hl];omega),List.getElem?_set_self (by omega)]
  ·rw[List.getElem?_set_ne (fun e=>h2 e.symm),List.getElem?_set_ne (by omega),flat_get en sz hl l i m (by omega),hi];rfl
 ·rw[if_neg h1,List.getElem?_set_ne (by omega)]
theorem J3 {P:Program} {t e:TypeId} {z:Value} {size bytes:Nat} (T:qY P t e z size bytes) {ops:Array Oper} {rest:List Oper} {o:Oper} {a:Act} {Q:Exit→Act→World→Prop} {w:World} (s x:Operand)
 (hgd:o.guard=none) (ho:o.op=.call {callee:=.builtin .append,args:=#[s,x],argTypes:=#[t,t]}) (base:Nat) {v:Value} {n:Nat} {xs:List Value} (hown:w.ownsRow base e size v n xs)
 {b c:Nat} (news:List Value) (hs:a.eval s=v) (hx:a.eval x=.slice (some ⟨b,0,none⟩) 1 c) (hl:news.length=size) {fr:Nat×Nat} (hblk:w.heap[b]? =some (.cells news.toArray e fr)) (h1:news.all (·.oneCell')=true)
 (hbytes:(n+1)*bytes≤140737488355328) (h63:n<9223372036854775807) (hbase:base≤w.heap.size)
 (h:∀g cap w',w'.ownsRow base e size (.slice (some ⟨g,0,none⟩) (n+1) cap) (n+1) (xs++news)→w.grownBy w' v.ownBlock→v.ownBlock=some g∨g=w.heap.size→wpList P ops Q rest (a.put o.dst (.slice (some ⟨g,0,none⟩) (n+1) cap)) w'):wpList P ops Q (o::rest) a w:=by
 obtain⟨i,hi,hz0,hz1,hz2⟩:=info_parts T.info;refine wpList_append_own_at w hgd s x t ho base e i z size bytes T.ht hi hz0 hz1 hz2 T.hz T.pos v n xs hs hown ⟨b,0,none⟩ 1 c news hx (by simpa using hl) ?_ (by simpa using h1) (by unfold maxLen;omega) hbytes hbase ?_
 ·intro j u hu;have e:(⟨b,0,none⟩:Addr).add j=⟨b,j,none⟩:=by unfold Addr.add;split<;>simp_all
  rw[e];simp[World.cell?,hblk,hu]
 ·intro v' w' hown' hg hnil hat;rcases hown'.2 with⟨_,h0⟩|⟨g,cap,cur,rfl,_⟩
  ·omega
  ·exact h g cap w' hown' hg (by rcases hat with e|e;(exact .inl (e.symm.trans rfl));exact .inr (by simpa[Value.ownBlock]using e))
theorem U4 {P:Program} {t e:TypeId} {z:Value} {size bytes:Nat} (T:qY P t e z size bytes) {ops:Array Oper} {rest:List Oper} {o:Oper} {a:Act} {Q:Exit→Act→World→Prop} {w:World} (s x:Operand)
 (hgd:o.guard=none) (ho:o.op=.call {callee:=.builtin .append,args:=#[s,x],argTypes:=#[t,t]}) (base:Nat) {v:Value} {n:Nat} {xs:List Value} (hown:w.ownsRow base e size v n xs)
 {b off m c:Nat} (news:List Value) (hs:a.eval s=v) (hx:a.eval x=.slice (some ⟨b,off,none⟩) m c) (hl:news.length=m*size) (hnews:∀j u,news[j]? =some u→w.cell? ⟨b,off+j,none⟩=some u) (h1:news.all (·.oneCell')=true)
 (hbytes:(n+m)*bytes≤140737488355328) (h63:n+m≤9223372036854775807) (hbase:base≤w.heap.size)
 (h:∀v' w',w'.ownsRow base e size v' (n+m) (xs++news)→w.grownBy w' v.ownBlock→wpList P ops Q rest (a.put o.dst v') w'):wpList P ops Q (o::rest) a w:=by
 obtain⟨i,hi,hz0,hz1,hz2⟩:=info_parts T.info;refine wpList_append_own w hgd s x t ho base e i z size bytes T.ht hi hz0 hz1 hz2 T.hz T.pos v n xs hs hown ⟨b,off,none⟩ m c news hx hl ?_ (by simpa using h1) (by unfold maxLen;omega) hbytes hbase (fun v' w' a1 a2 _=>h v' w' a1 a2);intro j u hu;have e:(⟨b,off,none⟩:Addr).add j=⟨b,off+j,none⟩:=by unfold Addr.add;split<;>simp_all
 rw[e];exact hnews j u hu
def xA (l:List UInt8):List Value:=l.map fun c=>.int .u8 (c.toNat:Int)
theorem RS (l:List UInt8):strOfNums (l.map fun c=>(c.toNat:Int))=tx l:=by
 apply vw
 rw[iI];show(strOfNums _).data.toList=l;rw[strOfNums_data,List.map_map]
 conv=>rhs;rw[←List.map_id l]
 apply List.map_congr_left
 intro c _;simp
theorem gW {P:Program} (a b:ByteArray) (h:a.size+b.size≤1000000) (W:World):(Op.stringOp .add a b).run P W=.ok (.string (a++b)) W:=run_string_add_sum W a b (by omega)
theorem gK (a b:ByteArray):bl (a++b)=bl a++bl b:=by simp[bl]
theorem byte_of (n:Nat):((UInt8.ofNat (n%256)).toNat:Int)=(n:Int)%256:=by simp
theorem RU {a b:ByteArray} (h:a=b):Ending.returned (.string a)=.returned (.string b):=by rw[h]
end Go.Proofs.YtjiehhlghjnfhaaGreatDoor
namespace Go.Proofs.YtjiehhlghjnfhaaGreatDoor
open Go.RowKit Go.Shelf
theorem tU8:qY Tryz.prog 282 5 (.int .u8 0) 1 1:=⟨Tryz.underlying282,by kernel_rfl,rfl,by decide⟩
def BS (w:World) (B b:Nat):Nat→Prop:=fun k=>k=b∨(B≤k∧∃cs fr,w.heap[k]? =some (.cells cs 5 fr))
def KB (B b:Nat) (w w':World):Prop:=Kp (BS w B b) w w'
theorem KB.refl (B b:Nat) (w:World):KB B b w w:=Kp.refl _ _
theorem KB.trans {B b:Nat} {w0 w w':World} (h:KB B b w0 w) (k:KB B b w w'):KB B b w0 w':=
 ⟨k.os.trans h.os,k.tape.trans h.tape,k.output.trans h.output,Nat.le_trans h.size k.size,fun i hi hs=>by
  have h1:=h.block i hi hs;refine(k.block i (Nat.lt_of_lt_of_le hi h.size) (fun e=>hs ?_)).trans h1;rcases e with e|⟨e,e2⟩
  ·exact .inl e
  ·exact .inr ⟨e,by rw[←h1];exact e2⟩⟩
theorem KB.old {B b:Nat} {w w':World} (h:Kp none' w w'):KB B b w w':=h.mono (fun _ _ x=>x.elim)
theorem KB.none {B b:Nat} {w0 w w':World} (h:Kp none' w0 w) (k:KB B b w w') (hB:w0.heap.size≤B) (hb:B≤b):Kp none' w0 w':=
 h.then k (fun i hi e=>by rcases e with e|⟨e,_⟩<;>omega)
theorem ag.kb {B b:Nat} {w w':World} {k:Nat} {cs:List Value} {t:TypeId} (h:ag w k cs t) (hk:KB B b w w') (h1:k≠b) (h2:t≠5):ag w' k cs t:=
 h.kp hk (fun e=>by
  rcases e with e|⟨_,c,fr,e⟩
  ·exact h1 e
  ·rw[h.is]at e;injection e with e;injection e with _ e _;exact h2 e)
theorem Sl.kb {B b:Nat} {w w':World} {v:Value} {n sz:Nat} {cs:List Value} (h:Sl w v n sz cs) (hk:KB B b w w') (hv:∀k,v.ownBlock=some k→k<B) (hb:B≤b):Sl w' v n sz cs:=
 h.kp hk (fun k _ hk e=>by
  have:=hv k hk
  rcases e with e|⟨e,_⟩<;>omega)
theorem Iy (w:World) (b o:Nat) (u:Value):Kp (fun k=>k=b) w (w.setCell ⟨b,o,none⟩ u):=(Kp.refl (fun k=>k=b) w).set (p:=⟨b,o,none⟩) (.inl rfl) u
end Go.Proofs.YtjiehhlghjnfhaaGreatDoor
namespace Go.Proofs.YtjiehhlghjnfhaaGreatDoor
open Go Go.RowKit
def oz (P:Program) (ops:Array Oper) (o:Oper) (v:Value) (a:Act):Prop:=
 (Region.wanted o (yielded ops a.tmps)=true∧∀w,(execOp a.eval o).run P w=.ok (.value v) w∨∃f args,(execOp a.eval o).run P w=.ok (.enter f args) w∧Calls P f args w fun e w'=>e=.returned v∧w=w')∨
 (Region.wanted o (yielded ops a.tmps)=false∧v=undef)
variable {P:Program} {ops:Array Oper} {Q:Exit→Act→World→Prop} {md:Region.Mode}
theorem oz.wpOp {i:Nat} {o:Oper} {v:Value} {a:Act} (hi:ops[i]? =some o) (hy:oz P ops o v a) {K:Act→World→Prop} {w:World} (h:K (a.put o.dst v) w):Go.wpOp P ops Q i K a w:=by
 unfold Go.wpOp;simp only[hi];rcases hy with⟨hw,hv⟩|⟨hw,rfl⟩
 ·rw[if_pos hw];refine .inl ?_;unfold Oper.wp;rcases hv w with e|⟨f,args,e,hc⟩
  ·rw[e];exact h
  ·rw[e];refine Calls.mono hc fun x w' hx=> ?_
   obtain⟨rfl,rfl⟩:=hx;exact h
 ·rw[if_neg (by rw[hw];simp)];exact h
theorem oz.alike {o:Oper} {v:Value} {a a':Act} (hy:oz P ops o v a) (he:execOp a'.eval o=execOp a.eval o) (hw:Region.wanted o (yielded ops a'.tmps)=Region.wanted o (yielded ops a.tmps)):oz P ops o v a':=by
 unfold oz at*;rw[he,hw];exact hy
theorem oz.swap {j:Nat} {oi oj:Oper} {v:Value} (hj:ops[j]? =some oj) (hap:oi.apart ops oj=true) (hsi:∀cs b,oi.op≠.select cs b) (hsj:∀cs b,oj.op≠.select cs b)
 (hQ:∀c a d u w,Q (.panic c) (Act.put a d u) w→Q (.panic c) a w) {K:Act→World→Prop} {a:Act} {w:World} (hy:oz P ops oi v a) (h:Go.wpOp P ops Q j K (a.put oi.dst v) w):
 Go.wpOp P ops Q j (fun a' w'=>oz P ops oi v a'∧K (a'.put oi.dst v) w') a w:=by
 obtain⟨h1,h2,h3⟩:=Oper.apart_spec hap;have stays:∀(b:Act),oz P ops oi v b→∀u,oz P ops oi v (b.put oj.dst u):=fun b hb u=>hb.alike (execOp_put oi hsi b oj.dst u h3) (wanted_put oi b oj.dst u h3)
 have YW:∀d,oz P ops oi v {a with defers:=d::a.defers}:=fun d=>hy.alike rfl rfl
 unfold Go.wpOp at*;simp only[hj]at*;rw[wanted_put oj a oi.dst v h1]at h;by_cases hw:Region.wanted oj (yielded ops a.tmps)=true
 ·rw[if_pos hw]at h ⊢;rcases h with h|⟨g1,g2⟩
  ·refine .inl ?_;unfold Oper.wp at*;rw[execOp_put oj hsj a oi.dst v h1]at h;generalize (execOp a.eval oj).run P w=r at*;match r,h with
   | .ok (.value u) w',h=>exact⟨stays a hy u,by rw[←Act.put_comm a v u h2];exact h⟩
   | .ok .skip w',h=>exact⟨stays a hy _,by rw[←Act.put_comm a v undef h2];exact h⟩
   | .ok (.defer d) w',h=>exact⟨stays _ (YW d) _,by rw[←Act.put_comm _ v undef h2,←Act.put_defers];exact h⟩
   | .ok (.row row args) w',h=>exact Rows.mono h fun u w'' he=>⟨stays a hy u,by rw[←Act.put_comm a v u h2];exact he⟩
   | .ok (.enter f args) w',h=>
    refine Calls.mono h fun e w'' he=> ?_
    match e,he with
    | .returned u,he=>exact⟨stays a hy u,by rw[←Act.put_comm a v u h2];exact he⟩
    | .panicked c,he=>exact hQ _ _ _ _ _ he
    | .outgrown,he=>exact he
   | .halt (.panic u) w',h=>exact hQ _ _ _ _ _ h
  ·exact .inr ⟨by unfold Oper.asks at*;rw[execOp_put oj hsj a oi.dst v h1]at g1;exact g1,g2⟩
 ·rw[if_neg hw]at h ⊢;exact⟨stays a hy _,by rw[←Act.put_comm a v undef h2];exact h⟩
theorem NS {listed:Array Bool} {i:Nat} (h0:listed.getD i true=false) (h1:listed.getD i false=true):False:=by
 rcases Nat.lt_or_ge i listed.size with h|h
 ·simp[h]at h0 h1;rw[h0]at h1;cases h1
 ·simp[Array.getElem?_eq_none h]at h1
theorem BH {i:Nat} {oi:Oper} {v:Value} (hi:ops[i]? =some oi) (hsel:∀(j:Nat) (o:Oper) cs b,ops[j]? =some o→o.op≠.select cs b) (hQ:∀c a d u w,Q (.panic c) (Act.put a d u) w→Q (.panic c) a w):
 ∀(fuel:Nat) (listed:Array Bool) (a:Act) (w:World),
  (∀j oj,ops[j]? =some oj→j≠i→listed.getD j true=false→(∀e∈oj.after,Region.binds md e=true→e.on≠i)→oi.apart ops oj=true)→
  i∈Region.ready md ops listed→oz P ops oi v a→wpAny P md ops Q fuel (listed.setIfInBounds i true) (a.put oi.dst v) w→wpAny P md ops Q (fuel+1) listed a w
 |0,listed,a,w,_,hr,hy,H=>by
  refine⟨fun h=>(by rw[h]at hr;cases hr),fun j hj=> ?_⟩;by_cases hji:j=i
  ·subst hji;exact hy.wpOp hi H
  ·have:=ready_mono hj hji;rw[H.1]at this;cases this
 |fuel+1,listed,a,w,hfree,hr,hy,H=>by
  refine⟨fun h=>(by rw[h]at hr;cases hr),fun j hj=> ?_⟩;by_cases hji:j=i
  ·subst hji;exact hy.wpOp hi H
  ·have h1:=H.2 j (ready_mono hj hji);obtain⟨hjun,oj,hoj,hall⟩:=mem_ready.1 hj;have hnot:∀e∈oj.after,Region.binds md e=true→e.on≠i:=fun e he hb heq=>NS (mem_ready.1 hr).1 (heq▸hall e he hb)
   have h2:=oz.swap hoj (hfree j oj hoj hji hjun hnot) (fun cs b=>hsel i oi cs b hi) (fun cs b=>hsel j oj cs b hoj) hQ hy h1;refine wpOp_mono (fun a' w' h3=>BH hi hsel hQ fuel (listed.setIfInBounds j true) a' w' (fun k ok hk hki hun hno=>hfree k ok hk hki ?_ hno) (ready_mono hr (Ne.symm hji)) h3.1 ?_) h2
   ·by_cases hjk:j=k
    ·subst hjk;exact hjun
    ·rwa [getD_set_ne true hjk]at hun
   ·rw[Array.setIfInBounds_comm _ _ hji];exact h3.2
def pz (P:Program) (ops:Array Oper) (C:Act→Prop):List Oper→Act→Prop
 | [],a=>C a
 |o::rest,a=>∃v,oz P ops o v a∧pz P ops C rest (a.put o.dst v)
theorem qI {C:Act→Prop} {o:Oper} {rest:List Oper} {a:Act} {v:Value} (hw:Region.wanted o (yielded ops a.tmps)=true) (h1:∀W,(execOp a.eval o).run P W=.ok (.value v) W) (h2:pz P ops C rest (a.put o.dst v)):pz P ops C (o::rest) a:=
 ⟨v,.inl ⟨hw,fun W=>.inl (h1 W)⟩,h2⟩
theorem uf {C:Act→Prop} {o:Oper} {rest:List Oper} {a:Act} (hw:Region.wanted o (yielded ops a.tmps)=false) (h2:pz P ops C rest (a.put o.dst undef)):pz P ops C (o::rest) a:=
 ⟨undef,.inr ⟨hw,rfl⟩,h2⟩
end Go.Proofs.YtjiehhlghjnfhaaGreatDoor
