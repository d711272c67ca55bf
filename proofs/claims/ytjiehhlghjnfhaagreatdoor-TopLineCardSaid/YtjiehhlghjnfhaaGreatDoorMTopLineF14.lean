/- The calendar in plain Lean (layer 11): the first of all, and what is left without it. -/
import Derived.Test.YtjiehhlghjnfhaaGreatDoorMTopLineF13
import Derived.Test.YtjiehhlghjnfhaaGreatDoorMTopLineF0
import Derived.BigQuiet
import Derived.Deep.QuietTactic
import Derived.Laws.Bits64b
set_option linter.unusedVariables false
set_option linter.unusedSimpArgs false
set_option maxHeartbeats 2000000
namespace Go.Proofs.YtjiehhlghjnfhaaGreatDoor.cq
open Go Go.RowKit Go.Proofs.YtjiehhlghjnfhaaGreatDoor
def lK (sz:Nat) (f d:Int):Int:=(d-f+sz)%sz
theorem Ac {sz:Nat} {f d:Int} (h1:0≤f) (h2:f≤d) (h3:d<sz):lK sz f d=d-f:=by
 unfold lK;rw[Int.add_emod_right,Int.emod_eq_of_lt (by omega) (by omega)]
theorem xg {sz:Nat} {f d:Int} (h1:0≤d) (h2:d<f) (h3:f<sz):lK sz f d=d-f+sz:=by
 unfold lK;rw[Int.emod_eq_of_lt (by omega) (by omega)]
theorem Ad {sz:Nat} {f d:Int} (h0:0≤f∧f<sz) (h1:0≤d∧d<sz):0≤lK sz f d∧lK sz f d<sz:=by
 by_cases h:f≤d
 ·rw[Ac h0.1 h h1.2];omega
 ·rw[xg h1.1 (by omega) h0.2];omega
theorem LJ {sz base o:Nat} (hs:0<sz) (ho:o<sz):bM sz (base+o)=if bM sz base+o<sz then bM sz base+o else bM sz base+o-sz:=by
 unfold bM;have hb:=Nat.mod_lt base hs;have h1:(base+o)%sz=(base%sz+o)%sz:=by rw[Nat.mod_add_mod]
 rw[h1];by_cases h:base%sz+o<sz
 ·rw[Nat.mod_eq_of_lt h,if_pos (by omega)];omega
 ·have h2:(base%sz+o)%sz=base%sz+o-sz:=by
   rw[Nat.mod_eq_sub_mod (by omega),Nat.mod_eq_of_lt (by omega)]
  rw[h2,if_neg (by omega)];omega
theorem sZ {sz:Nat} (hs:0<sz) (r:Nat):0≤bM sz r∧bM sz r<sz:=by
 have:=Nat.mod_lt r hs;unfold bM;omega
theorem WL {sz base o:Nat} (hs:0<sz) (ho:o<sz):lK sz (bM sz base) (bM sz (base+o))=o:=by
 have hb:=sZ hs base;rw[LJ hs ho];split
 ·rw[Ac hb.1 (by omega) (by omega)];omega
 ·rw[xg (by omega) (by omega) hb.2];omega
theorem WM {sz base:Nat} (hs:0<sz) {d:Int} (hd:0≤d∧d<sz):bM sz (base+(lK sz (bM sz base) d).toNat)=d:=by
 have hb:=sZ hs base;have h1:=Ad hb hd;have h2:=LJ (base:=base) hs (show(lK sz (bM sz base) d).toNat<sz by omega);rw[h2];by_cases h:bM sz base≤d
 ·rw[Ac hb.1 h hd.2];rw[if_pos (by omega)];omega
 ·rw[xg hd.1 (by omega) hb.2];rw[if_neg (by omega)];omega
theorem OU {sz:Nat} {m:List Int} (hs:m.Pairwise (·< ·)) (hm:m≠ []) (hr:∀d∈m,0≤d∧d<(sz:Int)) {f:Int} (hf:0≤f∧f<(sz:Int)):
 (jC m f).2=true∧(jC m f).1∈m∧∀d∈m,lK sz f (jC m f).1≤lK sz f d:=by
 unfold jC;cases hfi:m.find? (fun y=>decide (f≤y))with
 |some y=>
  have hy:f≤y:=by have:=List.find?_some hfi;simpa using this
  have hym:=List.mem_of_find?_eq_some hfi;refine⟨rfl,hym,fun d hd=> ?_⟩;have h1:=hr d hd;have h2:=hr y hym;show lK sz f y≤_;rw[Ac hf.1 hy h2.2];by_cases h:f≤d
  ·rw[Ac hf.1 h h1.2];have:y≤d:=by
    obtain⟨_,l1,l2,hab,hn⟩:=List.find?_eq_some_iff_append.1 hfi;rw[hab]at hd hs;rcases List.mem_append.1 hd with hd|hd
    ·have:=hn d hd;simp at this;omega
    ·rcases List.mem_cons.1 hd with rfl|hd
     ·exact Int.le_refl _
     ·have:=(List.pairwise_cons.1 (List.pairwise_append.1 hs).2.1).1 d hd;omega
   omega
  ·rw[xg h1.1 (by omega) hf.2];omega
 |none=>
  cases m with
  |nil=>exact absurd rfl hm
  |cons y r=>
   rw[List.find?_eq_none]at hfi;refine⟨rfl,by simp,fun d hd=> ?_⟩;have h1:=hr d hd;have h2:=hr y (by simp);have h3:=hfi d hd;have h4:=hfi y (by simp);simp at h3 h4
   show lK sz f y≤_;rw[xg h1.1 h3 hf.2,xg h2.1 h4 hf.2];rcases List.mem_cons.1 hd with rfl|hd
   ·omega
   ·have:=(List.pairwise_cons.1 hs).1 d hd;omega
section
variable {sz room:Nat} {c:oh} {I:List It}
theorem kN {x:It} {T:List It} (h:nR (x::T)) {i:It} (hi:i∈x::T):x.rank≤i.rank:=by
 rcases List.mem_cons.1 hi with rfl|hi
 ·exact Nat.le_refl _
 ·exact(List.pairwise_cons.1 h).1 i hi
theorem WN {x:It} {T:List It} {v:Pk} {l:List (Option Pk)} (h:xs (x::T) x.rank=some v::l):x.x=v∧xs T x.rank=l:=by
 rw[nT,if_pos rfl]at h;injection h with h1 h2
 injection h1 with h1
 exact⟨h1,h2⟩
theorem Hl {S:List (En Pk)} {s:En Pk} {S':List (En Pk)} (hS:S=s::S') (hs:nR (S.map fD)) {x:It} {T:List It} (hI:nR (x::T))
 (h1:xs (x::T) s.rank=xs (S.map fD) s.rank) (h2:xs (x::T) x.rank=xs (S.map fD) x.rank):x=fD s:=by
 subst hS;have a1:xs (x::T) s.rank≠ []:=by rw[h1];exact xs_a (by simp)
 obtain⟨i,hi,e⟩:=z_ a1;have b1:=kN hI hi;have a2:xs ((s::S').map fD) x.rank≠ []:=by rw[←h2];exact EE (i:=x) (by simp) rfl
 obtain⟨j,hj,e2⟩:=z_ a2;have b2:=kN hs hj;have b2:s.rank≤j.rank:=b2;have e3:x.rank=s.rank:=by omega
 rw[List.map_cons]at h2;have h3:xs (fD s::S'.map fD) x.rank=some s.x::xs (S'.map fD) x.rank:=by
  rw[nT,if_pos (show(fD s).rank=x.rank from e3.symm)];rfl
 rw[h3]at h2;have h4:=(WN h2).1;obtain⟨xr,xx⟩:=x;simp only at e3 h4;subst e3 h4;rfl
theorem cZ.Bh (h:cZ sz room c I) {b:En Pk} {B':List (En Pk)} (hB:c.B=b::B'):∃T,I=fD b::T:=by
 have hb:=h.bin b (by rw[hB];simp);cases I with
 |nil=>
  have h1:=h.low _ hb;exact absurd h1.symm (xs_a (by rw[hB];simp))
 |cons x T=>
  refine⟨T,?_⟩;have h1:=h.low _ hb;obtain⟨i,hi,e⟩:=z_ (I:=x::T) (r:=b.rank) (by rw[h1];exact xs_a (by rw[hB];simp));have h2:=kN h.lS hi;rw[Hl hB h.sB h.lS h1 (h.low _ (by omega))]
theorem cZ.WO (h:cZ sz room c I) (hB:c.B=[]) {i:It} (hi:i∈I):c.base≤i.rank:=by
 apply Classical.byContradiction
 intro hn;have h1:=h.low i.rank (by omega);rw[hB]at h1;exact EE hi rfl h1
theorem cZ.Hm (h:cZ sz room c I) (hd:Dn sz c) (hB:c.B=[]) (hm:c.m=[]):(c.A=[]∧I=[])∨∃a A' T,c.A=a::A'∧I=fD a::T:=by
 have hq:∀d,c.R.q d=[]:=fun d=>by
  apply Classical.byContradiction
  intro hn;have:=(h.days d).2 hn;rw[hm]at this;cases this
 cases hA:c.A with
 |nil=>
  left
  refine⟨rfl,List.eq_nil_of_length_eq_zero ?_⟩;have adR:c.R.bI=[]:=by
   cases he:c.R.bI with
   |nil=>rfl
   |cons p r=>
    have:=hq p.1;unfold RP.q at this;rw[he,List.filter_cons_of_pos (by simp)]at this;simp at this
  have h1:=h.len;have h2:=h.CV;rw[hB,hA]at h1;rw[adR]at h2;simp at h1 h2
  rw[h1,←h2]
 |cons a A'=>
  right
  have ha:=hd a (by rw[hA];simp);have h1:=h.far a.rank ha;cases I with
  |nil=>exact absurd h1.symm (xs_a (by rw[hA];simp))
  |cons x T=>
   refine⟨a,A',T,rfl,?_⟩;have hx:=h.WO hB (i:=x) (by simp);have h2:c.base+sz≤x.rank:=by
    apply Classical.byContradiction
    intro hn;have h3:=h.win x.rank hx (by omega);rw[hd.xs (by omega),List.append_nil,iR.2 (hq _)]at h3;exact EE (i:=x) (by simp) rfl h3
   rw[Hl hA h.sA h.lS h1 (h.far _ h2)]
theorem cZ.Ho (h:cZ sz room c I) (hd:Dn sz c) (hB:c.B=[]) (hm:c.m≠ []) (hs:c.m.Pairwise (·< ·)):
 ∃d x T k r,jC c.m (bM sz c.base)=(d,true)∧0≤d∧d<(sz:Int)∧I=x::T∧x.rank=c.base+(lK sz (bM sz c.base) d).toNat∧x.rank<c.base+sz∧bM sz x.rank=d∧c.R.q d=k::r∧c.R.find k=some x.x:=by
 have h0:=h.qh;have hs0:0<sz:=by omega
 have hf:=sZ hs0 c.base;obtain⟨f1,f2,f3⟩:=OU hs hm (fun d hd=>h.abq hd) hf;obtain⟨d,hdd⟩:∃d,(jC c.m (bM sz c.base)).1=d:=⟨_,rfl⟩
 rw[hdd]at f2 f3;have hdr:=h.abq f2;have ho:=Ad hf hdr;obtain⟨o,hoo⟩:∃o:Nat,(lK sz (bM sz c.base) d).toNat=o:=⟨_,rfl⟩
 have WQ:bM sz (c.base+o)=d:=by rw[←hoo];exact WM hs0 hdr
 have hol:o<sz:=by omega
 have hw:=h.win (c.base+o) (by omega) (by omega);rw[WQ,hd.xs (by omega),List.append_nil]at hw;have hne:things c.R d≠ []:=fun e=>(h.days d).1 f2 (iR.1 e)
 obtain⟨i,hi,hir⟩:=z_ (I:=I) (r:=c.base+o) (by rw[hw];exact hne);cases I with
 |nil=>cases hi
 |cons x T=>
  have hx1:=kN h.lS hi;have hx2:=h.WO hB (i:=x) (by simp);have hx3:=h.win x.rank hx2 (by omega);rw[hd.xs (by omega),List.append_nil]at hx3;have hx4:bM sz x.rank∈c.m:=by
   rw[h.days];intro e;rw[iR.2 e]at hx3;exact EE (i:=x) (by simp) rfl hx3
  have hx5:=f3 _ hx4;have hx6:x.rank=c.base+(x.rank-c.base):=by omega
  rw[hx6,WL hs0 (by omega)]at hx5;have hxr:x.rank=c.base+o:=by omega
  rw[hxr]at hx3;rw[WQ]at hx3;cases hq:c.R.q d with
  |nil=>exact absurd (iR.2 hq) hne
  |cons k r=>
   refine⟨d,x,T,k,r,Prod.ext hdd f1,hdr.1,hdr.2,rfl,by rw[hoo];exact hxr,by omega,by rw[hxr];exact WQ,hq,?_⟩;have hth:things c.R d=c.R.find k::r.map c.R.find:=by unfold things;rw[hq];rfl
   rw[hth,←hxr]at hx3;rw[nT,if_pos rfl]at hx3;injection hx3 with h7 h8
   exact h7.symm
theorem cZ.ZV {x:It} {T:List It} (h:cZ sz room c (x::T)) (hd:Dn sz c) (hb:c.base=x.rank) {P':PS Pk} {R':RP Pk} {m':List Int} (hne:c.R.q (bM sz x.rank)≠ [])
 (a1:Rel P' R') (a2:P'.most=c.P.most) (a3:P'.qs.length=c.P.qs.length) (a4:R'.items.length+1=c.R.items.length) (a5:R'.bI.length+1=c.R.bI.length)
 (a6:∀e,things R' e=if e=bM sz x.rank then(things c.R e).tail else things c.R e) (a7:∀d:Int,d∈m'↔R'.q d≠ []):
 cZ sz room {c with P:=P',R:=R',m:=m'} T∧Dn sz {c with P:=P',R:=R',m:=m'}:=by
 have h0:=h.qh;have hx:∀r,xs (x::T) r=if x.rank=r then some x.x::xs T r else xs T r:=fun r=>nT _ _ _
 refine⟨⟨a1,a3.trans h.qs,a2.trans h.most,h.qh,h.base,(List.pairwise_cons.1 h.lS).2,fun i hi=>h.kM i (by simp[hi]),fun r hr=> ?_,fun r hr hs=> ?_,fun r hr=> ?_,h.bin,h.EF,h.sB,h.sA,a7,?_,?_,by have:=h.cap;rw[List.length_cons]at this;omega⟩,hd⟩
 ·have hr:r<c.base:=hr;have h1:=h.low r hr;rw[hx,if_neg (by omega)]at h1;exact h1
 ·have hr:c.base≤r:=hr;have hs:r<c.base+sz:=hs;have h1:=h.win r hr hs;show _=things R' _++xs (c.A.map fD) r;rw[hx]at h1;rw[a6];by_cases e:x.rank=r
  ·rw[if_pos e]at h1;rw[if_pos (by rw[e])];cases ht:things c.R (bM sz r)with
   |nil=>rw[←e]at ht;exact absurd (iR.1 ht) hne
   |cons t l=>
    rw[ht]at h1;injection h1
  ·rw[if_neg e]at h1;rw[if_neg (fun e2=>e (Aa (base:=c.base) (by omega) (by omega) hr hs e2.symm))];exact h1
 ·have hr:c.base+sz≤r:=hr;have h1:=h.far r hr;rw[hx,if_neg (by omega)]at h1;exact h1
 ·have h1:=h.len;rw[List.length_cons]at h1;show _=c.B.length+R'.items.length+c.A.length;omega
 ·have h1:=h.CV;show R'.bI.length=R'.items.length;omega
theorem cZ.ZW {x:It} {T:List It} (h:cZ sz room c (x::T)) (hd:Dn sz c) {b:En Pk} {B':List (En Pk)} (hB:c.B=b::B'):cZ sz room {c with B:=B'} T∧Dn sz {c with B:=B'}:=by
 obtain⟨T',e⟩:=h.Bh hB;injection e with e1 e2
 subst e1 e2;have hb:=h.bin b (by rw[hB];simp);have hsB:=h.sB;rw[hB,List.map_cons]at hsB;have hx:∀r,xs (fD b::T) r=if b.rank=r then some b.x::xs T r else xs T r:=fun r=>nT _ _ _
 have hy:∀r,xs (c.B.map fD) r=if b.rank=r then some b.x::xs (B'.map fD) r else xs (B'.map fD) r:=fun r=>by rw[hB,List.map_cons,nT];rfl
 refine⟨⟨h.rel,h.qs,h.most,h.qh,h.base,(List.pairwise_cons.1 h.lS).2,fun i hi=>h.kM i (by simp[hi]),fun r hr=> ?_,fun r hr hs=> ?_,fun r hr=> ?_,fun s hs=>h.bin s (by rw[hB];exact List.mem_cons.2 (.inr hs)),h.EF,(List.pairwise_cons.1 hsB).2,h.sA,h.days,?_,h.CV,by have:=h.cap;rw[List.length_cons]at this;omega⟩,hd⟩
 ·have h1:=h.low r hr;rw[hx,hy]at h1;split at h1
  ·injection h1
  ·exact h1
 ·have hr:c.base≤r:=hr;have h1:=h.win r hr hs;rw[hx,if_neg (by omega)]at h1;exact h1
 ·have hr:c.base+sz≤r:=hr;have h1:=h.far r hr;rw[hx,if_neg (by omega)]at h1;exact h1
 ·have h1:=h.len;rw[List.length_cons,hB,List.length_cons]at h1;show _=B'.length+c.R.items.length+c.A.length;omega
end
end Go.Proofs.YtjiehhlghjnfhaaGreatDoor.cq
namespace Go.Proofs.YtjiehhlghjnfhaaGreatDoor.cq
open Go.RowKit Go.Proofs.YtjiehhlghjnfhaaGreatDoor
def wd (l:List Nat):List Value:=l.map (fun(x:Nat)=>Value.int .u64 x)
theorem ZX (l:List Nat) (i:Nat) (h:i<l.length):(wd l)[i]? =some (.int .u64 (l.getD i 0:Nat)):=by simp[wd,List.getD,h]
theorem ZY (l:List Nat) (i x:Nat):(wd l).set i (.int .u64 x)=wd (l.set i x):=by simp[wd,List.map_set]
structure dM (w:World) (p k bl:Nat) (B:Nat→Nat) (L:Lv) (n:Int):Prop where
 top:∃cap,ag w p [.slice (some ⟨bl,0,none⟩) k cap,.int .i64 n] 405
 lv:∃rest,ag w bl ((List.range k).map (fun j=>Value.slice (some ⟨B j,0,none⟩) (L j).length (L j).length)++rest) 264
 wd:∀j,j<k→ag w (B j) (wd (L j)) 22
theorem dM.c0 {w:World} {p k bl:Nat} {B:Nat→Nat} {L:Lv} {n:Int} (h:dM w p k bl B L n):∃cap,w.cell? ⟨p,0,none⟩=some (.slice (some ⟨bl,0,none⟩) k cap):=by
 obtain⟨cap,h⟩:=h.top;exact⟨cap,h.cell 0 rfl⟩
theorem dM.c1 {w:World} {p k bl:Nat} {B:Nat→Nat} {L:Lv} {n:Int} (h:dM w p k bl B L n):w.cell? ⟨p,1,none⟩=some (.int .i64 n):=by
 obtain⟨cap,h⟩:=h.top;exact h.cell 1 rfl
theorem dM.cl {w:World} {p k bl:Nat} {B:Nat→Nat} {L:Lv} {n:Int} (h:dM w p k bl B L n) (j:Nat) (hj:j<k):w.cell? ⟨bl,j,none⟩=some (.slice (some ⟨B j,0,none⟩) (L j).length (L j).length):=by
 obtain⟨rest,h⟩:=h.lv;exact h.cell j (by rw[List.getElem?_append_left (by simpa using hj)];simp[hj])
theorem dM.cw {w:World} {p k bl:Nat} {B:Nat→Nat} {L:Lv} {n:Int} (h:dM w p k bl B L n) (j i:Nat) (hj:j<k) (hi:i<(L j).length):w.cell? ⟨B j,i,none⟩=some (.int .u64 ((L j).getD i 0:Nat)):=
 (h.wd j hj).cell i (ZX _ _ hi)
theorem WR (p k bl:Nat) (B:Nat→Nat) (L:Lv) (n:Int) (w:World) (h:dM w p k bl B L n):
 Calls Tryz.prog 298 #[.pointer (some ⟨p,0,none⟩)] w fun e w'=>e=.returned (.int .i64 n)∧w=w':=by
 have c1:=h.c1;clear h
 go_enter Tryz.func298,Tryz.ntmps298
 go_wp2
 go_ret
 exact⟨rfl,rfl⟩
theorem Jc (p k bl:Nat) (B:Nat→Nat) (L:Lv) (n:Int) (w:World) (h:dM w p k bl B L n) (k1:1≤k) (k3:k≤3) (hl:(L (k-1)).length≤4096):
 Calls Tryz.prog 191 #[.pointer (some ⟨p,0,none⟩)] w fun e w'=>e=.returned (.int .i64 (64*(L (k-1)).length))∧∃d,w'=w.drewN d:=by
 obtain⟨cap,c0⟩:=h.c0;have cl:=h.cl (k-1) (by omega);clear h;have k0:((k:Int)==0)=false:=by simp;omega
 generalize (L (k-1)).length=N at*;obtain⟨k,rfl⟩:∃j,k=j+1:=⟨k-1,by omega⟩
 simp only[Nat.add_sub_cancel]at cl
 go_enter Tryz.func191,Tryz.ntmps191
 go_wp2
 go_quiet (fail)
 go_wp2
 go_ret
 exact⟨rfl,_,rfl⟩
theorem WS (p k bl:Nat) (B:Nat→Nat) (L:Lv) (n:Int) (w:World) (h:dM w p k bl B L n) (k1:1≤k) (k3:k≤3) (hl:(L (k-1)).length≤4096):
 Calls Tryz.prog 191 #[.pointer (some ⟨p,0,none⟩)] w fun e w'=>e=.returned (.int .i64 (64*(L (k-1)).length))∧Kp none' w w':=
 (Jc p k bl B L n w h k1 k3 hl).mono fun _ _ ⟨h1,h2⟩=>⟨h1,wK h2⟩
theorem qi (x b:Nat):((x:Int)/2^b)=((x>>>b:Nat):Int):=by rw[Nat.shiftRight_eq_div_pow];simp
theorem adS (x b:Nat) (hx:x<18446744073709551616):(bits BinOp.and IntKind.u64 ((x:Int)/2^b) 1==1)=x.testBit b:=by
 rw[qi];have h1:x>>>b<18446744073709551616:=Nat.lt_of_le_of_lt (Nat.shiftRight_le _ _) hx;have e:bits BinOp.and IntKind.u64 ((x>>>b:Nat):Int) 1=(((x>>>b)&&&1:Nat):Int):=bits_and_u64_nat (x>>>b) 1 h1 (by omega);rw[e,Nat.testBit,Nat.and_one_is_mod,Nat.and_comm,Nat.and_one_is_mod];have:x>>>b%2=0∨x>>>b%2=1:=by omega
 rcases this with h|h<;>rw[h]<;>simp
theorem acz (p k bl:Nat) (B:Nat→Nat) (L:Lv) (n i:Int) (w:World) (h:dM w p k bl B L n) (k1:1≤k) (k3:k≤3) (hl:(L (k-1)).length≤4096) (hr:∀x∈L (k-1),x<18446744073709551616):
 Calls Tryz.prog 303 #[.pointer (some ⟨p,0,none⟩),.int .i64 i] w fun e w'=>e=.returned (.bool (decide (0≤i∧i<64*(L (k-1)).length)&&bF (L (k-1)) i.toNat))∧∃d,w'=w.drewN d:=by
 have hsz0:=Jc p k bl B L n w h k1 k3 hl;by_cases h1:i<0
 ·have hF:decide (0≤i∧i<64*(L (k-1)).length)=false:=by simp;omega
  have HF:=ae hF;clear hF hsz0 h
  go_enter Tryz.func303,Tryz.ntmps303
  go_wp2
  go_ret
  exact⟨iH (by rw[HF.out];rfl),0,rfl⟩
 ·obtain⟨z,rfl⟩:∃z:Nat,i=z:=⟨i.toNat,by omega⟩
  by_cases h2:(z:Int)<64*(L (k-1)).length
  ·have hz:z/64<(L (k-1)).length:=by omega
   obtain⟨cap,c0⟩:=h.c0;have cl:=h.cl (k-1) (by omega);have cw:=h.cw (k-1) (z/64) (by omega) hz;have hx:=iK (L (k-1)) (z/64) hr;have hb:=adS ((L (k-1)).getD (z/64) 0) (z%64) hx;have hF:(decide (0≤(z:Int)∧(z:Int)<64*(L (k-1)).length)&&bF (L (k-1)) (z:Int).toNat)=bF (L (k-1)) z:=by simp;omega
   have HF:=ae hF;clear hF;have hbt:((L (k-1)).getD (z/64) 0).testBit (z%64)=bF (L (k-1)) z:=rfl;rw[hbt]at hb;have HB:=ae hb;clear hb hbt;have HS:=ae hsz0;clear hsz0 hr;generalize (L (k-1)).getD (z/64) 0=x at*;generalize hN:(L (k-1)).length=N at*;obtain⟨k,rfl⟩:∃j,k=j+1:=⟨k-1,by omega⟩
   simp only[Nat.add_sub_cancel]at*;have c0':=c0;have cl':=cl;have cw':=cw;clear h hN
   go_enter Tryz.func303,Tryz.ntmps303
   go_wp2_with(go_at_call 191;refine(HS.out).mono ?_;rintro e w' ⟨rfl,d,rfl⟩;clear HS)
   go_quiet (fail)
   go_wp2
   go_ret
   exact⟨iH (by rw[HF.out,←HB.out]),_,World.drewN_drewN _ _ _⟩
  ·have hF:decide (0≤(z:Int)∧(z:Int)<64*(L (k-1)).length)=false:=by simp;omega
   have HF:=ae hF;clear hF;have HS:=ae hsz0;clear hsz0;clear h hr
   go_enter Tryz.func303,Tryz.ntmps303
   go_wp2_with(go_at_call 191;refine(HS.out).mono ?_;rintro e w' ⟨rfl,d,rfl⟩;clear HS)
   go_ret
   exact⟨iH (by rw[HF.out];rfl),_,rfl⟩
theorem QN (p k bl:Nat) (B:Nat→Nat) (L:Lv) (n i:Int) (w:World) (h:dM w p k bl B L n) (k1:1≤k) (k3:k≤3) (hl:(L (k-1)).length≤4096) (hr:∀x∈L (k-1),x<18446744073709551616):
 Calls Tryz.prog 303 #[.pointer (some ⟨p,0,none⟩),.int .i64 i] w fun e w'=>e=.returned (.bool (decide (0≤i∧i<64*(L (k-1)).length)&&bF (L (k-1)) i.toNat))∧Kp none' w w':=
 (acz p k bl B L n i w h k1 k3 hl hr).mono fun _ _ ⟨h1,h2⟩=>⟨h1,wK h2⟩
theorem BZ (L:Lv) (l i:Nat) (h:64*(L l).length≤i):fE L l i= -1:=by unfold fE;rw[if_pos h]
theorem Ae (L:Lv) (l i:Nat) (h:¬64*(L l).length≤i) (hw:(L l).getD (i/64) 0>>>(i%64)≠0):fE L l i=(i:Int)+Lib.ctz 64 ((L l).getD (i/64) 0>>>(i%64)):=by
 unfold fE;rw[if_neg h,if_pos hw]
theorem LK (L:Lv) (i:Nat) (h:¬64*(L 0).length≤i) (hw:(L 0).getD (i/64) 0>>>(i%64)=0):fE L 0 i= -1:=by
 unfold fE;rw[if_neg h,if_neg (by simpa using hw)]
theorem OV (L:Lv) (l i:Nat) (h:¬64*(L (l+1)).length≤i) (hw:(L (l+1)).getD (i/64) 0>>>(i%64)=0):
 fE L (l+1) i=if fE L l (i/64+1)<0 then -1 else 64*fE L l (i/64+1)+Lib.ctz 64 ((L (l+1)).getD (fE L l (i/64+1)).toNat 0):=by
 rw[fE,if_neg h,if_neg (by simpa using hw)]
theorem Jd (x:Nat) (hx:x<18446744073709551616):Lib.ctz 64 x≤64:=by
 by_cases h:x=0
 ·subst h;decide
 ·have:=(xe x h hx).1;omega
theorem Je (l:Nat) (h:l≤2):64^l≤4096:=by
 have:l=0∨l=1∨l=2:=by omega
 rcases this with rfl|rfl|rfl<;>decide
theorem Ok.le {k:Nat} {L:Lv} {m:List Int} (h:Ok k L m) (k3:k≤3) (j:Nat) (hj:j<k):(L j).length≤4096:=by
 rw[h.len j hj];exact Je j (by omega)
theorem ZZ (p k bl:Nat) (B:Nat→Nat) (L:Lv) (n:Int) (m:List Int) (w:World) (h:dM w p k bl B L n) (ok:Ok k L m) (k3:k≤3) (hT:Tab w):∀(l i:Nat),l<k→i≤9223372036854775807→
 Calls Tryz.prog 308 #[.pointer (some ⟨p,0,none⟩),.int .i64 l,.int .i64 i] w fun e w'=>e=.returned (.int .i64 (fE L l i))∧w=w':=by
 obtain⟨cap,c0⟩:=h.c0;intro l;induction l with
 |zero=>
  intro i hl hi;have cl:=h.cl 0 hl;have hN:=ok.le k3 0 hl;by_cases h1:64*(L 0).length≤i
  ·have HF:=ae (BZ L 0 i h1);clear h ok hT
   go_enter Tryz.func308,Tryz.ntmps308
   go_wp2
   go_ret
   exact⟨gB HF.out.symm,rfl⟩
  ·have hz:i/64<(L 0).length:=by omega
   have cw:=h.cw 0 (i/64) hl hz;have hx:=iK (L 0) (i/64) (ok.kM 0 hl);by_cases h2:(L 0).getD (i/64) 0>>>(i%64)=0
   ·have HF:=ae (LK L i h1 h2);have h2':(((((L 0).getD (i/64) 0:Nat):Int)/2^(i%64)) != 0)=false:=by rw[qi,h2];rfl
    clear h ok hT h2;generalize (L 0).getD (i/64) 0=x at*
    go_enter Tryz.func308,Tryz.ntmps308
    go_wp2
    go_ret
    exact⟨gB HF.out.symm,rfl⟩
   ·have HF:=ae (Ae L 0 i h1 h2);have h2':(((((L 0).getD (i/64) 0:Nat):Int)/2^(i%64)) != 0)=true:=by rw[qi];simp only[bne_iff_ne];omega
    have hs:=Nat.lt_of_le_of_lt (Nat.shiftRight_le ((L 0).getD (i/64) 0) (i%64)) hx;have htz:=tz _ hs w hT;have hcl:=Jd _ hs;have he:=qi ((L 0).getD (i/64) 0) (i%64);clear h ok hT h2;generalize (L 0).getD (i/64) 0>>>(i%64)=y at*;generalize (L 0).getD (i/64) 0=x at*;have HE:=ae he;have HT:=ae htz;clear he htz;generalize Lib.ctz 64 y=c at*
    go_enter Tryz.func308,Tryz.ntmps308
    go_wp2_with(go_at_call 164;rw[HE.out];refine(HT.out).mono ?_;rintro e w' ⟨rfl,rfl⟩)
    go_ret
    exact⟨gB HF.out.symm,rfl⟩
 |succ l ih=>
  intro i hl hi;have cl:=h.cl (l+1) hl;have hN:=ok.le k3 (l+1) hl;have hl2:l≤2:=by omega
  by_cases h1:64*(L (l+1)).length≤i
  ·have HF:=ae (BZ L (l+1) i h1);clear h ok hT ih
   go_enter Tryz.func308,Tryz.ntmps308
   go_wp2
   go_ret
   exact⟨gB HF.out.symm,rfl⟩
  ·have hz:i/64<(L (l+1)).length:=by omega
   have cw:=h.cw (l+1) (i/64) hl hz;have hx:=iK (L (l+1)) (i/64) (ok.kM _ hl);by_cases h2:(L (l+1)).getD (i/64) 0>>>(i%64)=0
   ·have hup:=OV L l i h1 h2;have h2':(((((L (l+1)).getD (i/64) 0:Nat):Int)/2^(i%64)) != 0)=false:=by rw[qi,h2];rfl
    have hrec:=ih (i/64+1) (by omega) (by omega);have hnext:=ED ok.len ok.kM ok.up l (i/64+1) (by omega);have hp:64^(l+1)=(L (l+1)).length:=(ok.len _ hl).symm;have hcw:=fun j hj=>h.cw (l+1) j hl hj
    have l7:=ok.kM (l+1) hl;clear h ok h2 ih;generalize fE L l (i/64+1)=r at*;generalize (L (l+1)).getD (i/64) 0=x at*;have HR:=ae hrec;clear hrec;rcases hnext with⟨hr,_⟩|⟨a,hr,_,ha,_⟩
    ·subst hr;have HF:Hid (fE L (l+1) i= -1):=by rw[hup];rfl
     clear hup hcw hp hT
     go_enter Tryz.func308,Tryz.ntmps308
     go_wp2_with(go_at_call 308;refine(HR.out).mono ?_;rintro e w' ⟨rfl,rfl⟩)
     go_ret
     exact⟨gB HF.out.symm,rfl⟩
    ·subst hr;rw[hp]at ha;have cw2:=hcw a ha;have hx2:=iK (L (l+1)) a l7;rw[if_neg (by omega)]at hup;simp only[Int.toNat_natCast]at hup;have htz:=tz _ hx2 w hT;have hcl:=Jd _ hx2;have HF:=ae hup;have HT:=ae htz;clear hup hcw hp htz hT;generalize (L (l+1)).getD a 0=y at*;generalize Lib.ctz 64 y=c at*
     go_enter Tryz.func308,Tryz.ntmps308
     go_wp2_with(first|(go_at_call 308;refine(HR.out).mono ?_;rintro e w' ⟨rfl,rfl⟩)|(go_at_call 164;refine(HT.out).mono ?_;rintro e w' ⟨rfl,rfl⟩))
     go_ret
     exact⟨gB HF.out.symm,rfl⟩
   ·have HF:=ae (Ae L (l+1) i h1 h2);have h2':(((((L (l+1)).getD (i/64) 0:Nat):Int)/2^(i%64)) != 0)=true:=by rw[qi];simp only[bne_iff_ne];omega
    have hs:=Nat.lt_of_le_of_lt (Nat.shiftRight_le ((L (l+1)).getD (i/64) 0) (i%64)) hx;have htz:=tz _ hs w hT;have hcl:=Jd _ hs;have he:=qi ((L (l+1)).getD (i/64) 0) (i%64);clear h ok hT h2 ih;generalize (L (l+1)).getD (i/64) 0>>>(i%64)=y at*;generalize (L (l+1)).getD (i/64) 0=x at*;have HE:=ae he;have HT:=ae htz;clear he htz;generalize Lib.ctz 64 y=c at*
    go_enter Tryz.func308,Tryz.ntmps308
    go_wp2_with(go_at_call 164;rw[HE.out];refine(HT.out).mono ?_;rintro e w' ⟨rfl,rfl⟩)
    go_ret
    exact⟨gB HF.out.symm,rfl⟩
def Fp (p bl:Nat) (B:Nat→Nat) (k:Nat):Nat→Prop:=fun b=>b=p∨b=bl∨∃j,j<k∧b=B j
theorem wR (b:Nat) (hb:b<64):IntKind.u64.wrap ((2:Int)^b)=((2^b:Nat):Int):=by
 have h:2^b<2^64:=Nat.pow_lt_pow_right (by decide) hb;rw[IntKind.wrap_u64];have e:(2:Int)^b=((2^b:Nat):Int):=by simp
 rw[e];generalize 2^b=y at*;omega
theorem or_bit (x b:Nat) (hx:x<18446744073709551616) (hb:b<64):bits BinOp.or IntKind.u64 (x:Int) (IntKind.u64.wrap ((2:Int)^b))=((x|||2^b:Nat):Int):=by
 rw[wR b hb];exact bits_or_u64_nat x _ hx (Nat.pow_lt_pow_right (n:=64) (by decide) hb)
theorem dM.kp {S:Nat→Prop} {w w':World} {p k bl:Nat} {B:Nat→Nat} {L:Lv} {n:Int} (h:dM w p k bl B L n) (K:Kp S w w') (hs:∀b,Fp p bl B k b→¬S b):dM w' p k bl B L n:=
 ⟨by obtain⟨c,h⟩:=h.top;exact⟨c,h.kp K (hs _ (.inl rfl))⟩,by obtain⟨c,h⟩:=h.lv;exact⟨c,h.kp K (hs _ (.inr (.inl rfl)))⟩,fun j hj=>(h.wd j hj).kp K (hs _ (.inr (.inr ⟨j,hj,rfl⟩)))⟩
theorem dM.old {w w':World} {p k bl:Nat} {B:Nat→Nat} {L:Lv} {n:Int} (h:dM w p k bl B L n) (K:Kp none' w w'):dM w' p k bl B L n:=h.kp K (fun _ _ h=>h)
theorem dM.lt {w:World} {p k bl:Nat} {B:Nat→Nat} {L:Lv} {n:Int} (h:dM w p k bl B L n) {b:Nat} (hb:Fp p bl B k b):b<w.heap.size:=by
 rcases hb with rfl|rfl|⟨j,hj,rfl⟩
 ·obtain⟨c,h⟩:=h.top;exact h.lt
 ·obtain⟨c,h⟩:=h.lv;exact h.lt
 ·exact(h.wd j hj).lt
theorem WT (i j:Nat) (h:64^i=64^j):i=j:=by
 rcases Nat.lt_trichotomy i j with h1|h1|h1
 ·have:=Nat.pow_lt_pow_right (a:=64) (by decide) h1;omega
 ·exact h1
 ·have:=Nat.pow_lt_pow_right (a:=64) (by decide) h1;omega
theorem dM.ne {w:World} {p k bl:Nat} {B:Nat→Nat} {L:Lv} {n:Int} (h:dM w p k bl B L n) (hlen:∀j,j<k→(L j).length=64^j):
 p≠bl∧(∀j,j<k→B j≠p∧B j≠bl)∧∀i j,i<k→j<k→i≠j→B i≠B j:=by
 obtain⟨c,h0⟩:=h.top;obtain⟨r,h1⟩:=h.lv;refine⟨?_,fun j hj=>⟨?_,?_⟩,fun i j hi hj hne=> ?_⟩
 ·rintro rfl;have:=(h0.inj h1).2;simp at this
 ·rintro rfl;have:=(h0.inj (h.wd j hj)).2;simp at this
 ·rintro rfl;have:=(h1.inj (h.wd j hj)).2;simp at this
 ·intro e;have h2:=h.wd i hi;rw[e]at h2;have:=congrArg List.length (h2.inj (h.wd j hj)).1;simp only[Go.Proofs.YtjiehhlghjnfhaaGreatDoor.cq.wd,List.length_map,hlen i hi,hlen j hj]at this;exact hne (WT _ _ this)
theorem dM.Hq {w:World} {p k bl:Nat} {B:Nat→Nat} {L:Lv} {n:Int} (h:dM w p k bl B L n) (hlen:∀j,j<k→(L j).length=64^j) (n':Int):dM (w.setCell ⟨p,1,none⟩ (.int .i64 n')) p k bl B L n':=by
 obtain⟨e1,e2,_⟩:=h.ne hlen;refine⟨?_,?_,fun j hj=>(h.wd j hj).bY (e2 j hj).1 _⟩
 ·obtain⟨c,h⟩:=h.top;exact⟨c,h.set 1 _⟩
 ·obtain⟨c,h⟩:=h.lv;exact⟨c,h.bY (fun e=>e1 e.symm) _⟩
theorem dM.setW {w:World} {p k bl:Nat} {B:Nat→Nat} {L:Lv} {n:Int} (h:dM w p k bl B L n) (hlen:∀j,j<k→(L j).length=64^j) (l i x:Nat) (hl:l<k):
 dM (w.setCell ⟨B l,i,none⟩ (.int .u64 x)) p k bl B (upd L l ((L l).set i x)) n:=by
 obtain⟨e1,e2,e3⟩:=h.ne hlen;refine⟨?_,?_,fun j hj=> ?_⟩
 ·obtain⟨c,h⟩:=h.top;exact⟨c,h.bY (fun e=>(e2 l hl).1 e.symm) _⟩
 ·obtain⟨c,h⟩:=h.lv;refine⟨c,?_⟩;have e:(List.range k).map (fun j=>Value.slice (some ⟨B j,0,none⟩) (upd L l ((L l).set i x) j).length (upd L l ((L l).set i x) j).length)=(List.range k).map (fun j=>Value.slice (some ⟨B j,0,none⟩) (L j).length (L j).length):=by
   apply List.map_congr_left
   intro j _;unfold upd;split
   ·rename_i e;subst e;simp
   ·rfl
  rw[e];exact h.bY (fun e=>(e2 l hl).2 e.symm) _
 ·by_cases e:j=l
  ·subst e;simp only[upd,if_true];rw[←ZY];exact(h.wd j hj).set i _
  ·simp only[upd,if_neg e];exact(h.wd j hj).bY (e3 j l hj hl e) _
theorem Ok.size {k:Nat} {L:Lv} {m:List Int} (ok:Ok k L m):64*(L (k-1)).length=64^k:=by
 have:=ok.k1;rw[ok.len _ (by omega),←Nat.pow_succ'];congr 1;omega
theorem Z4 (p k bl:Nat) (B:Nat→Nat) (L:Lv) (n i:Int) (m:List Int) (w:World) (h:dM w p k bl B L n) (ok:Ok k L m) (k3:k≤3) (hno:¬(0≤i∧i<((64^k:Nat):Int))∨i∈m):
 Calls Tryz.prog 306 #[.pointer (some ⟨p,0,none⟩),.int .i64 i] w fun e w'=>e=.returned (.bool false)∧Kp none' w w':=by
 have k1:=ok.k1;have hlast:(L (k-1)).length≤4096:=ok.le k3 _ (by omega);have hsz:=fun(w':World) (hkp:Kp none' w w')=>WS p k bl B L n w' (h.old hkp) k1 k3 hlast
 have hhas:=fun(w':World) (hkp:Kp none' w w')=>QN p k bl B L n i w' (h.old hkp) k1 k3 hlast (ok.kM _ (by omega))
 have hs:=ok.size;by_cases h1:i<0
 ·clear h ok hsz hhas hno
  go_enter Tryz.func306,Tryz.ntmps306
  go_wp2
  go_ret
  exact⟨rfl,Kp.refl _ _⟩
 ·obtain⟨z,rfl⟩:∃z:Nat,i=z:=⟨i.toNat,by omega⟩
  by_cases h2:z<64^k
  ·have hz:(z:Int)∈m:=by rcases hno with h|h;(exact absurd ⟨by omega,by omega⟩ h);exact h
   have hb:bF (L (k-1)) z=true:=by rw[ok.leaf z h2];simpa using hz
   have hv:(decide (0≤(z:Int)∧(z:Int)<64*(L (k-1)).length)&&bF (L (k-1)) (z:Int).toNat)=true:=by simp[hb];omega
   simp only[hv]at hhas;have hin:z<64*(L (k-1)).length:=by omega
   have HS:=ae hsz;have HH:=ae hhas;generalize (L (k-1)).length=N at*;clear h ok hsz hhas hno hb hv hs hz
   go_enter Tryz.func306,Tryz.ntmps306
   go_wp2_with fail
   refine(HS.out _ (Kp.refl _ _)).mono ?_;rintro e w1 ⟨rfl,hk1⟩
   go_wp2_with fail
   refine(HH.out _ hk1).mono ?_;rintro e w2 ⟨rfl,hk2⟩
   go_wp2
   go_ret
   exact⟨rfl,hk1.trans hk2⟩
  ·have hin:¬z<64*(L (k-1)).length:=by omega
   have HS:=ae hsz;generalize (L (k-1)).length=N at*;clear h ok hsz hhas hno hs h2
   go_enter Tryz.func306,Tryz.ntmps306
   go_wp2_with fail
   refine(HS.out _ (Kp.refl _ _)).mono ?_;rintro e w1 ⟨rfl,hk1⟩
   go_wp2
   go_ret
   exact⟨rfl,hk1⟩
theorem adT (p k bl:Nat) (B:Nat→Nat) (L:Lv) (n:Int) (i:Nat) (m:List Int) (w:World) (h:dM w p k bl B L n) (ok:Ok k L m) (k3:k≤3) (hi:i<64^k) (hm:(i:Int)∉m) (hn:0≤n∧n≤1000000):
 Calls Tryz.prog 306 #[.pointer (some ⟨p,0,none⟩),.int .i64 i] w fun e w'=>e=.returned (.bool true)∧dM w' p k bl B (qc L k i) (n+1)∧Kp (Fp p bl B k) w w':=by
 have k1:=ok.k1;have hlast:(L (k-1)).length≤4096:=ok.le k3 _ (by omega);have hsz:=fun(w':World) (hkp:Kp none' w w')=>WS p k bl B L n w' (h.old hkp) k1 k3 hlast
 have hhas:=fun(w':World) (hkp:Kp none' w w')=>QN p k bl B L n i w' (h.old hkp) k1 k3 hlast (ok.kM _ (by omega))
 have hin:i<64*(L (k-1)).length:=by rw[ok.size];exact hi
 have hb:bF (L (k-1)) i=false:=by rw[ok.leaf i hi];simpa using hm
 have hv:(decide (0≤(i:Int)∧(i:Int)<64*(L (k-1)).length)&&bF (L (k-1)) (i:Int).toNat)=false:=by simp[hb]
 simp only[hv]at hhas;have HS:=ae hsz;have HH:=ae hhas;clear hsz hhas hv;have H:=ae h;generalize hN:(L (k-1)).length=N at*;clear h
 go_enter Tryz.func306,Tryz.ntmps306
 go_wp2_with fail
 refine(HS.out _ (Kp.refl _ _)).mono ?_;rintro e w1 ⟨rfl,hk1⟩
 go_wp2_with fail
 refine(HH.out _ hk1).mono ?_;rintro e w2 ⟨rfl,hk2⟩;have h2:=(H.out.old hk1).old hk2;obtain⟨cap,c0⟩:=h2.c0;have c1:=h2.c1;have hp:p<w2.heap.size:=h2.lt (.inl rfl);have fz:∀o,w2.frozen? ⟨p,o,none⟩=false:=by obtain⟨c,h⟩:=h2.top;exact fun o=>h.fz o
 have h3:=h2.Hq ok.len (n+1);obtain⟨cap3,c03⟩:=h3.c0;have fz0:=fz 1;have H2:=ae h2;have H3:=ae h3;have hkS:Kp (Fp p bl B k) w (w2.setCell ⟨p,1,none⟩ (.int .i64 (n+1))):=((hk1.trans hk2).mono (fun _ _ h=>h.elim)).set (.inl (.inl rfl)) _;have hst:Hid (∃q:Int,(k:Int)-1=q):=⟨_,rfl⟩;clear h2 h3 fz hk1 hk2 H HS HH
 go_wp2
 go_loopw [1,5] (fun s1 s5 wr=>∃(l:Nat) (Lc:Lv) (ic:Nat) (q:Int),l≤k∧s5=.int .i64 q∧q=(l:Int)-1∧s1=.int .i64 ic∧ic<64^l∧Hid (qc Lc l ic=qc L k i)∧Hid (∀j,j<k→(Lc j).length=64^j)∧Hid (∀j,j<k→∀x∈Lc j,x<18446744073709551616)∧Hid (dM wr p k bl B Lc (n+1))∧Hid (Kp (Fp p bl B k) w wr)) (fun _ s5 _=>(intOf s5+1).toNat)
 case atStart=>exact⟨k,L,i,_,Nat.le_refl _,rfl,rfl,rfl,hi,rfl,ok.len,ok.kM,H3.out,hkS⟩
 case round=>
  obtain⟨l,Lc,ic,q,hl,rfl,hq,rfl,hic,hpu,hlen,l7,hf,hkp⟩:=hrel;cases l with
  |zero=>
   obtain rfl:q= -1:=by omega
   clear hq
   go_wp2
   go_ret
   exact⟨rfl,by rw[←hpu.out];exact hf.out,hkp.out⟩
  |succ l=>
   obtain rfl:q=(l:Int):=by omega
   clear hq;have hll:(Lc l).length=64^l:=hlen.out l (by omega);have hz:ic/64<(Lc l).length:=by rw[hll];rw[Nat.pow_succ]at hic;omega
   obtain⟨adU,d0⟩:=hf.out.c0;have dl:=hf.out.cl l (by omega);have dw:=hf.out.cw l (ic/64) (by omega) hz;have fw:wr.frozen? ⟨B l,ic/64,none⟩=false:=(hf.out.wd l (by omega)).fz _;have hx:=iK (Lc l) (ic/64) (l7.out l (by omega));have hlc:(Lc l).length≤4096:=by rw[hll];exact Je l (by omega)
   have adV:ic<64*(Lc l).length:=by omega
   have hset:=hf.out.setW hlen.out l (ic/64) ((Lc l).getD (ic/64) 0|||2^(ic%64)) (by omega);have LM:=hkp.out.set (p:=⟨B l,ic/64,none⟩) (.inl (.inr (.inr ⟨l,by omega,rfl⟩))) (.int .u64 ((Lc l).getD (ic/64) 0|||2^(ic%64):Nat));have Hr:Hid (qc (upd Lc l ((Lc l).set (ic/64) ((Lc l).getD (ic/64) 0|||2^(ic%64)))) l (ic/64)=qc L k i):=hpu.out;have hlen2:Hid (∀j,j<k→(upd Lc l ((Lc l).set (ic/64) ((Lc l).getD (ic/64) 0|||2^(ic%64))) j).length=64^j):=fun j hj=>by
    unfold upd;split
    ·rename_i e;subst e;rw[List.length_set];exact hlen.out j hj
    ·exact hlen.out j hj
   have OW:Hid (∀j,j<k→∀x∈upd Lc l ((Lc l).set (ic/64) ((Lc l).getD (ic/64) 0|||2^(ic%64))) j,x<18446744073709551616):=fun j hj=>by
    unfold upd;split
    ·rename_i e;subst e;exact Bg _ _ (l7.out j hj)
    ·exact l7.out j hj
   have jm:=ae hset;clear hset;have HLL:=ae hll;clear hll;have hor:=or_bit _ (ic%64) hx (Nat.mod_lt _ (by decide));have WU:ic/64<64^l:=by rw[Nat.pow_succ]at hic;omega
   have xJ:=ae LM;clear LM;have Z5:=ae hor;clear hor;generalize (Lc l).getD (ic/64) 0=x at*;clear hpu hlen l7 hf hkp
   go_wp2
   go_region
   rw[Z5.out];have EH:=jm.out;have LP:=xJ.out;generalize wr.setCell ⟨B l,ic/64,none⟩ (.int .u64 (x|||2^(ic%64):Nat))=wn at*;replace jm:=ae EH;replace xJ:=ae LP;clear EH LP
   go_wp2
   go_roundw
   case rel=>exact⟨l,_,ic/64,_,by omega,rfl,rfl,by go_num,WU,Hr,hlen2,OW,jm.out.kp (Kp.refl none' _).drew (fun _ _ h=>h),xJ.out.drew⟩
   case measure=>simp[intOf]
theorem WV (p k bl:Nat) (B:Nat→Nat) (L:Lv) (n i:Int) (m:List Int) (w:World) (h:dM w p k bl B L n) (ok:Ok k L m) (k3:k≤3) (hno:i∉m):
 Calls Tryz.prog 295 #[.pointer (some ⟨p,0,none⟩),.int .i64 i] w fun e w'=>e=.returned (.bool false)∧Kp none' w w':=by
 have k1:=ok.k1;have hlast:(L (k-1)).length≤4096:=ok.le k3 _ (by omega);have hhas:=QN p k bl B L n i w h k1 k3 hlast (ok.kM _ (by omega));have hv:(decide (0≤i∧i<64*(L (k-1)).length)&&bF (L (k-1)) i.toNat)=false:=by
  by_cases hi:0≤i∧i<64*(L (k-1)).length
  ·have hs:=ok.size;rw[ok.leaf i.toNat (by omega)];have:((i.toNat:Nat):Int)=i:=by omega
   simp[this,hno]
  ·simp[hi]
 rw[hv]at hhas;clear h ok hv
 go_enter Tryz.func295,Tryz.ntmps295
 go_wp2_with fail
 refine hhas.mono ?_;rintro e w1 ⟨rfl,hk1⟩
 go_wp2
 go_ret
 exact⟨rfl,hk1⟩
theorem LQ (x b:Nat) (hx:x<18446744073709551616) (hb:b<64):bits BinOp.andNot IntKind.u64 (x:Int) (IntKind.u64.wrap ((2:Int)^b))=((nS x b:Nat):Int):=by
 have h2:2^b<2^64:=Nat.pow_lt_pow_right (by decide) hb;rw[wR b hb,u64_andNot_nat x _ hx h2];congr 1
 apply Nat.eq_of_testBit_eq
 intro j;have e:18446744073709551615-2^b=2^64-(2^b+1):=by omega
 rw[Nat.testBit_and,Be,e,Nat.testBit_two_pow_sub_succ h2,Nat.testBit_two_pow];cases hj:x.testBit j
 ·rfl
 ·have:=Dl x j hx hj;by_cases hbj:b=j
  ·subst hbj;simp
  ·have:j≠b:=fun e=>hbj e.symm
   simp[*]
theorem Jf (L:Lv) (l i:Nat):gQ L (l+1) i=if(upd L l (jD (L l) i) l).getD (i/64) 0≠0 then upd L l (jD (L l) i)else gQ (upd L l (jD (L l) i)) l (i/64):=rfl
theorem acA (p k bl:Nat) (B:Nat→Nat) (L:Lv) (n:Int) (i:Nat) (m:List Int) (w:World) (h:dM w p k bl B L n) (ok:Ok k L m) (k3:k≤3) (hm:(i:Int)∈m) (hn:0≤n∧n≤1000000):
 Calls Tryz.prog 295 #[.pointer (some ⟨p,0,none⟩),.int .i64 i] w fun e w'=>e=.returned (.bool true)∧dM w' p k bl B (gQ L k i) (n-1)∧Kp (Fp p bl B k) w w':=by
 have k1:=ok.k1;have hlast:(L (k-1)).length≤4096:=ok.le k3 _ (by omega);have hhas:=QN p k bl B L n i w h k1 k3 hlast (ok.kM _ (by omega));have hi:i<64^k:=by have:=ok.mem _ hm;omega
 have hb:bF (L (k-1)) i=true:=by rw[ok.leaf i hi];simpa using hm
 have hv:(decide (0≤(i:Int)∧(i:Int)<64*(L (k-1)).length)&&bF (L (k-1)) (i:Int).toNat)=true:=by have:=ok.size;simp[hb];omega
 simp only[hv]at hhas;have HH:=ae hhas;clear hhas hv hb;have H:=ae h;clear h
 go_enter Tryz.func295,Tryz.ntmps295
 go_wp2_with fail
 refine(HH.out).mono ?_;rintro e w2 ⟨rfl,hk2⟩;have h2:=H.out.old hk2;obtain⟨cap,c0⟩:=h2.c0;have c1:=h2.c1;have hp:p<w2.heap.size:=h2.lt (.inl rfl);have fz:∀o,w2.frozen? ⟨p,o,none⟩=false:=by obtain⟨c,h⟩:=h2.top;exact fun o=>h.fz o
 have h3:=h2.Hq ok.len (n-1);obtain⟨cap3,c03⟩:=h3.c0;have fz0:=fz 1;have H2:=ae h2;have H3:=ae h3;have hkS:Kp (Fp p bl B k) w (w2.setCell ⟨p,1,none⟩ (.int .i64 (n-1))):=(hk2.mono (fun _ _ h=>h.elim)).set (.inl (.inl rfl)) _;clear h2 h3 fz hk2 H HH
 go_wp2
 go_loopw [1,5] (fun s1 s5 wr=>∃(l:Nat) (Lc:Lv) (ic:Nat) (q:Int),l≤k∧s5=.int .i64 q∧q=(l:Int)-1∧s1=.int .i64 ic∧ic<64^l∧Hid (gQ Lc l ic=gQ L k i)∧Hid (∀j,j<k→(Lc j).length=64^j)∧Hid (∀j,j<k→∀x∈Lc j,x<18446744073709551616)∧Hid (dM wr p k bl B Lc (n-1))∧Hid (Kp (Fp p bl B k) w wr)) (fun _ s5 _=>(intOf s5+1).toNat)
 case atStart=>exact⟨k,L,i,_,Nat.le_refl _,rfl,rfl,rfl,hi,rfl,ok.len,ok.kM,H3.out,hkS⟩
 case round=>
  obtain⟨l,Lc,ic,q,hl,rfl,hq,rfl,hic,hpu,hlen,l7,hf,hkp⟩:=hrel;cases l with
  |zero=>
   obtain rfl:q= -1:=by omega
   clear hq
   go_wp2
   go_ret
   exact⟨rfl,by rw[←hpu.out];exact hf.out,hkp.out⟩
  |succ l=>
   obtain rfl:q=(l:Int):=by omega
   clear hq;have hll:(Lc l).length=64^l:=hlen.out l (by omega);have hz:ic/64<(Lc l).length:=by rw[hll];rw[Nat.pow_succ]at hic;omega
   obtain⟨adU,d0⟩:=hf.out.c0;have dl:=hf.out.cl l (by omega);have dw:=hf.out.cw l (ic/64) (by omega) hz;have fw:wr.frozen? ⟨B l,ic/64,none⟩=false:=(hf.out.wd l (by omega)).fz _;have hx:=iK (Lc l) (ic/64) (l7.out l (by omega));have hlc:(Lc l).length≤4096:=by rw[hll];exact Je l (by omega)
   have adV:ic<64*(Lc l).length:=by omega
   have hset:=hf.out.setW hlen.out l (ic/64) (nS ((Lc l).getD (ic/64) 0) (ic%64)) (by omega);have LM:=hkp.out.set (p:=⟨B l,ic/64,none⟩) (.inl (.inr (.inr ⟨l,by omega,rfl⟩))) (.int .u64 (nS ((Lc l).getD (ic/64) 0) (ic%64):Nat));have hlen2:Hid (∀j,j<k→(upd Lc l (jD (Lc l) ic) j).length=64^j):=fun j hj=>by
    unfold upd;split
    ·rename_i e;subst e;unfold jD;rw[List.length_set];exact hlen.out j hj
    ·exact hlen.out j hj
   have OW:Hid (∀j,j<k→∀x∈upd Lc l (jD (Lc l) ic) j,x<18446744073709551616):=fun j hj=>by
    unfold upd;split
    ·rename_i e;subst e;exact Hg _ _ (l7.out j hj)
    ·exact l7.out j hj
   have hnew:(upd Lc l (jD (Lc l) ic) l).getD (ic/64) 0=nS ((Lc l).getD (ic/64) 0) (ic%64):=by simp[upd,jD,List.getD,hz]
   have OX:(upd Lc l (jD (Lc l) ic) l).length=(Lc l).length:=by simp[upd,jD]
   have Hr:Hid ((if nS ((Lc l).getD (ic/64) 0) (ic%64)≠0 then upd Lc l (jD (Lc l) ic)else gQ (upd Lc l (jD (Lc l) ic)) l (ic/64))=gQ L k i):=by
    have:=hpu.out;rw[Jf,hnew]at this;exact this
   have hset':dM (wr.setCell ⟨B l,ic/64,none⟩ (.int .u64 (nS ((Lc l).getD (ic/64) 0) (ic%64):Nat))) p k bl B (upd Lc l (jD (Lc l) ic)) (n-1):=hset;obtain⟨afl,n0⟩:=hset'.c0;have nl:=hset'.cl l (by omega);have nw:=hset'.cw l (ic/64) (by omega) (by rw[OX];exact hz);rw[hnew]at nw;rw[OX]at nl;have jm:=ae hset';clear hset hset';have HLL:=ae hll;clear hll;have hor:=LQ _ (ic%64) hx (Nat.mod_lt _ (by decide));have WU:ic/64<64^l:=by rw[Nat.pow_succ]at hic;omega
   have xJ:=ae LM;clear LM;have Z5:=ae hor;clear hor;generalize (Lc l).getD (ic/64) 0=x at*;generalize upd Lc l (jD (Lc l) ic)=Ln at*;clear hpu hlen l7 hf hkp hnew OX
   go_wp2
   go_region
   rw[Z5.out];have EH:=jm.out;have LP:=xJ.out;generalize nS x (ic%64)=y at*;generalize wr.setCell ⟨B l,ic/64,none⟩ (.int .u64 (y:Nat))=wn at*;replace jm:=ae EH;replace xJ:=ae LP;clear EH LP Z5;by_cases hy:y=0
   ·subst hy;have hy0:(((0:Nat):Int) != 0)=false:=rfl;have WW:Hid (gQ Ln l (ic/64)=gQ L k i):=by have:=Hr.out;rw[if_neg (by simp)]at this;exact this
    clear Hr
    go_wp2
    go_roundw
    case rel=>exact⟨l,_,ic/64,_,by omega,rfl,rfl,by go_num,WU,WW,hlen2,OW,jm.out.kp (Kp.refl none' _).drew (fun _ _ h=>h),xJ.out.drew⟩
    case measure=>simp[intOf]
   ·have hy0:((y:Int) != 0)=true:=by simpa using hy
    have WW:Hid (Ln=gQ L k i):=by have:=Hr.out;rw[if_pos hy]at this;exact this
    have HY:=ae hy;clear Hr hy
    go_wp2
    go_ret
    exact⟨rfl,by rw[←WW.out];exact jm.out.kp (Kp.refl none' _).drew (fun _ _ h=>h),xJ.out.drew⟩
end Go.Proofs.YtjiehhlghjnfhaaGreatDoor.cq
