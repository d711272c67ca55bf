/- The calendar in memory (layer 11). -/
import Derived.Test.YtjiehhlghjnfhaaGreatDoorMTopLineF14
import Derived.Test.YtjiehhlghjnfhaaGreatDoorMTopLineF15
import Derived.Test.YtjiehhlghjnfhaaGreatDoorMTopLineF10
import Derived.Test.YtjiehhlghjnfhaaGreatDoorMTopLineF2
set_option linter.unusedVariables false
set_option linter.unusedSimpArgs false
set_option maxHeartbeats 4000000
namespace Go.Proofs.YtjiehhlghjnfhaaGreatDoor.cq
open Go Go.RowKit Go.Shelf Go.Proofs.YtjiehhlghjnfhaaGreatDoor
def LY (l:List (Nat→Prop)):Prop:=l.Pairwise (fun F G=>∀b,F b→¬G b)
theorem LY.ne {l:List (Nat→Prop)} (h:LY l) {i j:Nat} {F G:Nat→Prop} (hi:l[i]? =some F) (hj:l[j]? =some G) (hne:i≠j):∀b,F b→¬G b:=by
 obtain⟨hi',rfl⟩:=List.getElem?_eq_some_iff.1 hi;obtain⟨hj',rfl⟩:=List.getElem?_eq_some_iff.1 hj;rcases Nat.lt_or_gt_of_ne hne with hlt|hlt
 ·exact List.pairwise_iff_getElem.1 h i j hi' hj' hlt
 ·exact fun b hf hg=>List.pairwise_iff_getElem.1 h j i hj' hi' hlt b hg hf
theorem LY.set {l:List (Nat→Prop)} {w:World} {i:Nat} {F G:Nat→Prop} (h:LY l) (hi:l[i]? =some F) (hn:Nw w F G) (hlt:∀H∈l,∀b,H b→b<w.heap.size):LY (l.set i G):=by
 unfold LY;rw[List.pairwise_iff_getElem];intro a b ha hb hab z hz hz2;rw[List.length_set]at ha hb;rw[List.getElem_set]at hz hz2;split at hz
 ·rename_i e
  rw[if_neg (by omega)]at hz2;rcases hn z hz with h1|h1
  ·exact h.ne hi (List.getElem?_eq_getElem hb) (by omega) z h1 hz2
  ·have:=hlt _ (List.getElem_mem hb) z hz2;omega
 ·rename_i e
  split at hz2
  ·rename_i e2
   rcases hn z hz2 with h1|h1
   ·exact h.ne (List.getElem?_eq_getElem ha) hi (by omega) z hz h1
   ·have:=hlt _ (List.getElem_mem ha) z hz;omega
  ·exact h.ne (List.getElem?_eq_getElem ha) (List.getElem?_eq_getElem hb) (by omega) z hz hz2
structure f_ where
 sp:Nat
 sl:Nat
 k:Nat
 sB:Nat→Nat
 pp:Nat
 pq:Nat
 vc:Value
 bb:Nat
 ab:Nat
 FB:Nat→Prop
 FA:Nat→Prop
def f_.parts (f:f_) (cb:Nat):List (Nat→Prop):=[fun b=>b=cb,Fp f.sp f.sl f.sB f.k,PF f.pp f.pq f.vc,f.FB,f.FA]
def f_.all (f:f_) (cb:Nat):Nat→Prop:=fun b=>∃F∈f.parts cb,F b
def bg (k:Nat):Nat:=64^k
theorem Ag {k:Nat} (h:1≤k∧k≤3):64≤bg k∧bg k≤262144:=by
 have:k=1∨k=2∨k=3:=by omega
 rcases this with rfl|rfl|rfl<;>decide
structure dW (w:World) (cb:Nat) (f:f_) (room nb na base:Nat) (B A:List (En Pk)) (P:PS Pk) (m:List Int):Prop where
 top:ag w cb [.pointer (some ⟨f.sp,0,none⟩),.pointer (some ⟨f.pp,0,none⟩),.int .u64 base,.pointer (some ⟨f.bb,0,none⟩),.pointer (some ⟨f.ab,0,none⟩),.int .i64 room] 361
 set:SR w f.sp f.k f.sl f.sB m
 pool:bU w f.pp f.pq f.vc P
 low:Hp w f.FB f.bb room nb B
 far:Hp w f.FA f.ab room na A
 k3:1≤f.k∧f.k≤3
 kP:LY (f.parts cb)
section
variable {w w':World} {cb:Nat} {f:f_} {room nb na base:Nat} {B A:List (En Pk)} {P:PS Pk} {m:List Int}
theorem dW.lt (h:dW w cb f room nb na base B A P m):∀F∈f.parts cb,∀b,F b→b<w.heap.size:=by
 intro F hF b hb;simp only[f_.parts,List.mem_cons,List.not_mem_nil,or_false]at hF;rcases hF with rfl|rfl|rfl|rfl|rfl
 ·have hb:b=cb:=hb;rw[hb];exact h.top.lt
 ·exact h.set.lt hb
 ·exact h.pool.lt hb
 ·exact h.low.lt hb
 ·exact h.far.lt hb
theorem dW.TT (h:dW w cb f room nb na base B A P m) {b:Nat} (hb:f.all cb b):b<w.heap.size:=by
 obtain⟨F,hF,hb⟩:=hb;exact h.lt F hF b hb
theorem dW.kp {T:Nat→Prop} (h:dW w cb f room nb na base B A P m) (k:Kp T w w') (hT:∀b,f.all cb b→¬T b):dW w' cb f room nb na base B A P m:=
 ⟨h.top.kp k (hT _ ⟨fun b=>b=cb,by simp[f_.parts],rfl⟩),h.set.kp k (fun b hb=>hT b ⟨_,by simp[f_.parts],hb⟩),h.pool.kp k (fun b hb=>hT b ⟨PF f.pp f.pq f.vc,by simp[f_.parts],hb⟩),h.low.kp k (fun b hb=>hT b ⟨f.FB,by simp[f_.parts],hb⟩),h.far.kp k (fun b hb=>hT b ⟨f.FA,by simp[f_.parts],hb⟩),h.k3,h.kP⟩
theorem dW.old (h:dW w cb f room nb na base B A P m) (k:Kp none' w w'):dW w' cb f room nb na base B A P m:=h.kp k (fun _ _ x=>x)
structure ed (w:World) (cb:Nat) (f:f_) (w':World) (f':f_):Prop where
 kp:Kp (f.all cb) w w'
 nw:Nw w (f.all cb) (f'.all cb)
theorem ed.refl (w:World) (cb:Nat) (f:f_):ed w cb f w f:=⟨Kp.refl _ _,Nw.refl _ _⟩
theorem ed.old (k:Kp none' w w'):ed w cb f w' f:=⟨k.mono (fun _ _ x=>x.elim),Nw.refl _ _⟩
theorem ed.trans {w2:World} {f' f2:f_} (h:ed w cb f w' f') (g:ed w' cb f' w2 f2):ed w cb f w2 f2:=⟨h.kp.steps h.nw g.kp,h.nw.trans g.nw h.kp.size⟩
theorem dW.part (h:dW w cb f room nb na base B A P m) {i:Nat} {F:Nat→Prop} (hi:(f.parts cb)[i]? =some F) (k:Kp F w w'):Kp (f.all cb) w w':=k.mono (fun b _ hb=>⟨F,List.mem_of_getElem? hi,hb⟩)
theorem Bi {f':f_} {i:Nat} {F G:Nat→Prop} (hi:(f.parts cb)[i]? =some F) (he:f'.parts cb=(f.parts cb).set i G) (hn:Nw w F G):Nw w (f.all cb) (f'.all cb):=by
 rintro b ⟨H,hH,hb⟩;rw[he]at hH;rcases List.mem_or_eq_of_mem_set hH with h1|h1
 ·exact .inl ⟨H,h1,hb⟩
 ·subst h1;rcases hn b hb with h2|h2
  ·exact .inl ⟨F,List.mem_of_getElem? hi,h2⟩
  ·exact .inr h2
theorem dW.Ah (h:dW w cb f room nb na base B A P m) {rM:Value} {P':PS Pk} (hp:bU w' f.pp f.pq rM P') (k:Kp (PF f.pp f.pq f.vc) w w') (hn:Nw w (PF f.pp f.pq f.vc) (PF f.pp f.pq rM)):
 dW w' cb {f with vc:=rM} room nb na base B A P' m∧ed w cb f w' {f with vc:=rM}:=by
 have hi:(f.parts cb)[2]? =some (PF f.pp f.pq f.vc):=rfl;have he:({f with vc:=rM}:f_).parts cb=(f.parts cb).set 2 (PF f.pp f.pq rM):=rfl;refine⟨⟨h.top.kp k (h.kP.ne (i:=0) rfl hi (by decide) cb rfl),h.set.kp k (h.kP.ne (i:=1) rfl hi (by decide)),hp,h.low.kp k (h.kP.ne (i:=3) rfl hi (by decide)),h.far.kp k (h.kP.ne (i:=4) rfl hi (by decide)),h.k3,?_⟩,h.part hi k,Bi hi he hn⟩;rw[he];exact h.kP.set hi hn h.lt
theorem dW.QO (h:dW w cb f room nb na base B A P m) {m':List Int} (hp:SR w' f.sp f.k f.sl f.sB m') (k:Kp (Fp f.sp f.sl f.sB f.k) w w'):dW w' cb f room nb na base B A P m'∧ed w cb f w' f:=by
 have hi:(f.parts cb)[1]? =some (Fp f.sp f.sl f.sB f.k):=rfl;exact⟨⟨h.top.kp k (h.kP.ne (i:=0) rfl hi (by decide) cb rfl),hp,h.pool.kp k (h.kP.ne (i:=2) rfl hi (by decide)),h.low.kp k (h.kP.ne (i:=3) rfl hi (by decide)),h.far.kp k (h.kP.ne (i:=4) rfl hi (by decide)),h.k3,h.kP⟩,h.part hi k,Nw.refl _ _⟩
theorem dW.QP (h:dW w cb f room nb na base B A P m) {F':Nat→Prop} {B':List (En Pk)} {nb':Nat} (hp:Hp w' F' f.bb room nb' B') (k:Kp f.FB w w') (hn:Nw w f.FB F'):
 dW w' cb {f with FB:=F'} room nb' na base B' A P m∧ed w cb f w' {f with FB:=F'}:=by
 have hi:(f.parts cb)[3]? =some f.FB:=rfl;have he:({f with FB:=F'}:f_).parts cb=(f.parts cb).set 3 F':=rfl;refine⟨⟨h.top.kp k (h.kP.ne (i:=0) rfl hi (by decide) cb rfl),h.set.kp k (h.kP.ne (i:=1) rfl hi (by decide)),h.pool.kp k (h.kP.ne (i:=2) rfl hi (by decide)),hp,h.far.kp k (h.kP.ne (i:=4) rfl hi (by decide)),h.k3,?_⟩,h.part hi k,Bi hi he hn⟩;rw[he];exact h.kP.set hi hn h.lt
theorem dW.QQ (h:dW w cb f room nb na base B A P m) {F':Nat→Prop} {A':List (En Pk)} {na':Nat} (hp:Hp w' F' f.ab room na' A') (k:Kp f.FA w w') (hn:Nw w f.FA F'):
 dW w' cb {f with FA:=F'} room nb na' base B A' P m∧ed w cb f w' {f with FA:=F'}:=by
 have hi:(f.parts cb)[4]? =some f.FA:=rfl;have he:({f with FA:=F'}:f_).parts cb=(f.parts cb).set 4 F':=rfl;refine⟨⟨h.top.kp k (h.kP.ne (i:=0) rfl hi (by decide) cb rfl),h.set.kp k (h.kP.ne (i:=1) rfl hi (by decide)),h.pool.kp k (h.kP.ne (i:=2) rfl hi (by decide)),h.low.kp k (h.kP.ne (i:=3) rfl hi (by decide)),hp,h.k3,?_⟩,h.part hi k,Bi hi he hn⟩;rw[he];exact h.kP.set hi hn h.lt
theorem dW.LZ (h:dW w cb f room nb na base B A P m) (r:Nat):dW (w.setCell ⟨cb,2,none⟩ (.int .u64 r)) cb f room nb na r B A P m∧ed w cb f (w.setCell ⟨cb,2,none⟩ (.int .u64 r)) f:=by
 have hi:(f.parts cb)[0]? =some (fun b=>b=cb):=rfl;have k:Kp (fun b=>b=cb) w (w.setCell ⟨cb,2,none⟩ (.int .u64 r)):=(Kp.refl (fun b=>b=cb) w).set (p:=⟨cb,2,none⟩) (.inl rfl) _;exact⟨⟨h.top.set 2 _,h.set.kp k (h.kP.ne (i:=1) rfl hi (by decide)),h.pool.kp k (h.kP.ne (i:=2) rfl hi (by decide)),h.low.kp k (h.kP.ne (i:=3) rfl hi (by decide)),h.far.kp k (h.kP.ne (i:=4) rfl hi (by decide)),h.k3,h.kP⟩,h.part hi k,Nw.refl _ _⟩
theorem dW.size (h:dW w cb f room nb na base B A P m):Calls Tryz.prog 191 #[.pointer (some ⟨f.sp,0,none⟩)] w fun e w'=>e=.returned (.int .i64 (bg f.k:Nat))∧Kp none' w w':=
 (WX _ _ _ _ _ _ h.set h.k3.2).mono fun e w' ⟨h1,h2⟩=>⟨h1,wK h2⟩
theorem Hu (h:dW w cb f room nb na base B A P m) (r:Nat):
 Calls Tryz.prog 290 #[.pointer (some ⟨cb,0,none⟩),.int .u64 r] w fun e w'=>e=.returned (.int .i64 (bM (bg f.k) r))∧Kp none' w w':=by
 have c0:=h.top.cell 0 rfl;have HS:=ae h.size;have hz:=Ag h.k3;clear h;generalize bg f.k=z at*;have HD:Hid (bM z r=(r:Int)%(z:Int)):=by show _=_;unfold bM;omega
 have hm:((r:Int)%(z:Int))<262144∧0≤((r:Int)%(z:Int)):=⟨by have:=Int.emod_lt_of_pos (r:Int) (show(0:Int)<z by omega);omega,Int.emod_nonneg _ (by omega)⟩;refine ay ?_;intro PP HP
 go_enter Tryz.func290,Tryz.ntmps290
 go_wp2_with(go_at_call 191;refine(HS.out).mono ?_;rintro e w' ⟨rfl,hk⟩;have HK:=ae hk;clear hk)
 exact HP.out _ _ ⟨by rw[HD.out];rfl,HK.out⟩
end
end Go.Proofs.YtjiehhlghjnfhaaGreatDoor.cq
namespace Go.Proofs.YtjiehhlghjnfhaaGreatDoor.cq
open Go Go.RowKit Go.Shelf Go.Proofs.YtjiehhlghjnfhaaGreatDoor
theorem Jk {w:World} {F:Nat→Prop} {hb room n:Nat} {S:List (En Pk)} (h:Hp w F hb room n S):Calls Tryz.prog 269 #[.pointer (some ⟨hb,0,none⟩)] w fun e w'=>e=.returned (.int .i64 S.length)∧w=w':=by
 obtain⟨vc,l,rfl,hm,hr,h3,h4⟩:=h;rw[←hr.len];exact hLen w 0 hb vc n room l hm
section
variable {w w':World} {cb:Nat} {f:f_} {room nb na base:Nat} {B A:List (En Pk)} {P:PS Pk} {m:List Int}
set_option maxRecDepth 100000 in
theorem cLen (h:dW w cb f room nb na base B A P m) (I:List It) (hI:(I.length:Int)=P.n+B.length+A.length) (hn:0≤P.n) (hl:I.length≤4096):
 Calls Tryz.prog 280 #[.pointer (some ⟨cb,0,none⟩)] w fun e w'=>e=.returned (.int .i64 I.length)∧Kp none' w w':=by
 have c1:=h.top.cell 1 rfl;have c3:=h.top.cell 3 rfl;have c4:=h.top.cell 4 rfl;have HP:=ae (fun W (k:Kp none' w W)=>aT (adY W _ _ _ _ (h.pool.old k)));have HB:=ae (fun W (k:Kp none' w W)=>aT (Jk (h.low.old k)));have HA:=ae (fun W (k:Kp none' w W)=>aT (Jk (h.far.old k)));clear h;have HI:Hid (P.n+B.length+A.length=(I.length:Int)):=hI.symm;have hb:(B.length:Int)≤4096:=by omega
 have ha:(A.length:Int)≤4096:=by omega
 have hp:P.n≤4096:=by omega
 clear hI;generalize B.length=lb at*;generalize A.length=la at*;generalize I.length=li at*;generalize P.n=n at*;refine ay ?_;intro PP EK;have w1:IntKind.i64.wrap (n+(lb:Int))=n+lb:=by rw[IntKind.wrap_i64];omega
 have w2:IntKind.i64.wrap (n+(lb:Int)+la)=n+lb+la:=by rw[IntKind.wrap_i64];omega
 go_enter Tryz.func280,Tryz.ntmps280
 go_wp2_with fail
 refine af [] [0,1,2,3,4,5,6,7,8,9,10,11,12,13,14,15,16] 17 (by kernel_rfl) (by kernel_rfl) (fun c a d u w h=>by cases d<;>exact h) ?_;simp only[pick,bn];show aA _ _ _ _ _ _
 repeat((first
  |refine ah (by exact rfl) (by as_aux_lemma=>intro W hK;have e1:=hK.cell c1 (fun x=>x);have e3:=hK.cell c3 (fun x=>x);have e4:=hK.cell c4 (fun x=>x);have e5:=w1;have e6:=w2;go_simp;exact rfl) ?_
  |refine ai (by exact rfl) ?_
  |refine au (by exact rfl) (by as_aux_lemma=>intro W;go_simp;exact⟨rfl,rfl⟩) (by intro W hK;with_reducible first|exact HP.out W hK|exact HB.out W hK|exact HA.out W hK) ?_);simp only[Act.put,aY])
 show ∀W,_→wpList _ _ _ _ _ _
 intro W hK;have HK:=ae hK;clear hK c1 c3 c4
 go_wp2_with fail
 exact EK.out _ _ ⟨by rw[←HI.out];rfl,HK.out⟩
set_option maxRecDepth 100000 in
theorem EL (h:dW w cb f room nb na base B A P m) (r:Nat) (hr:r<18446744073709551616) (hbs:base<18446744073709551616):
 Calls Tryz.prog 296 #[.pointer (some ⟨cb,0,none⟩),.int .u64 r] w fun e w'=>e=.returned (.bool (decide (base≤r∧r<base+bg f.k)))∧Kp none' w w':=by
 have c0:=h.top.cell 0 rfl;have c2:=h.top.cell 2 rfl;have HS:=ae (fun W (k:Kp none' w W)=>(h.old k).size);have hz:=Ag h.k3;clear h;generalize bg f.k=z at*;refine ay ?_;intro PP HP;by_cases h1:base≤r
 ·have h1':((r:Int)≥base)=True:=by simp;omega
  obtain⟨d,hd⟩:∃d:Nat,r-base=d:=⟨_,rfl⟩
  have sS:IntKind.u64.wrap ((r:Int)-base)=(d:Int):=by rw[IntKind.wrap_u64];omega
  have HD:Hid (decide (base≤r∧r<base+z)=decide ((d:Int)<z)):=by show _=_;rw[decide_eq_decide];omega
  rw[HD.out]at HP;clear HD
  go_enter Tryz.func296,Tryz.ntmps296
  go_wp2_with fail
  refine af [] [0,1,2,3,4,5,6,7,8,9,10,11,12,13,14,15,16,17,18,19] 20 (by kernel_rfl) (by kernel_rfl) (fun c a d u w h=>by cases d<;>exact h) ?_;simp only[pick,bn];show aA _ _ _ _ _ _
  repeat((first
   |refine ah (by exact rfl) (by as_aux_lemma=>intro W hK;have e1:=hK.cell c0 (fun x=>x);have e3:=hK.cell c2 (fun x=>x);have e4:=sS;have e5:=h1';go_simp;exact rfl) ?_
   |refine ai (by exact rfl) ?_
   |refine au (by exact rfl) (by as_aux_lemma=>intro W;go_simp;exact⟨rfl,rfl⟩) (by intro W hK;with_reducible first|exact HS.out W hK) ?_);simp only[Act.put,aY])
  show ∀W,_→wpList _ _ _ _ _ _
  intro W hK;have HK:=ae hK;clear hK c0 c2
  go_wp2_with fail
  exact HP.out _ _ ⟨rfl,HK.out⟩
 ·have h1':((r:Int)≥base)=False:=by simp;omega
  have HD:Hid (decide (base≤r∧r<base+z)=false):=by show _=_;simp;omega
  rw[HD.out]at HP;clear HD
  go_enter Tryz.func296,Tryz.ntmps296
  go_wp2_with fail
  refine af [] [0,1,2,3,4,5,6,7,8,9,10,11,12,13,14,15,16,17,18,19] 20 (by kernel_rfl) (by kernel_rfl) (fun c a d u w h=>by cases d<;>exact h) ?_;simp only[pick,bn];show aA _ _ _ _ _ _
  repeat((first
   |refine ah (by exact rfl) (by as_aux_lemma=>intro W hK;have e1:=hK.cell c0 (fun x=>x);have e3:=hK.cell c2 (fun x=>x);have e5:=h1';go_simp;exact rfl) ?_
   |refine ai (by exact rfl) ?_
   |refine au (by exact rfl) (by as_aux_lemma=>intro W;go_simp;exact⟨rfl,rfl⟩) (by intro W hK;with_reducible first|exact HS.out W hK) ?_);simp only[Act.put,aY])
  show ∀W,_→wpList _ _ _ _ _ _
  intro W hK;have HK:=ae hK;clear hK c0 c2
  go_wp2_with fail
  exact HP.out _ _ ⟨rfl,HK.out⟩
end
end Go.Proofs.YtjiehhlghjnfhaaGreatDoor.cq
namespace Go.Proofs.YtjiehhlghjnfhaaGreatDoor.cq
open Go Go.RowKit Go.Shelf Go.Proofs.YtjiehhlghjnfhaaGreatDoor
structure O3 (sz:Nat) (c:oh) (x:Pk) (r:Nat) (P':PS Pk) (R':RP Pk) (m':List Int):Prop where
 a1:Rel P' R'
 a2:P'.most=c.P.most
 a3:P'.qs.length=c.P.qs.length
 a4:R'.items.length=c.R.items.length+1
 a5:R'.bI.length=c.R.bI.length+1
 a6:∀e,things R' e=things c.R e++(if e=bM sz r then[some x]else[])
 a7:∀d:Int,d∈m'↔R'.q d≠ []
theorem L9:∀ {m l:List Int},m.Nodup→(∀x∈m,x∈l)→m.length≤l.length
 | [],_,_,_=>Nat.zero_le _
 |a::m,l,hn,hs=>by
  rw[List.nodup_cons]at hn;have ha:=hs a (by simp);have h1:=L9 (m:=m) (l:=l.erase a) hn.2 (fun x hx=>(List.mem_erase_of_ne (fun e=>hn.1 (by rw[←e];exact hx))).2 (hs x (by simp[hx])));rw[List.length_erase_of_mem ha]at h1;have:0<l.length:=List.length_pos_of_mem ha;rw[List.length_cons];omega
theorem cZ.Xe {sz room:Nat} {c:oh} {I:List It} (h:cZ sz room c I) (hs:c.m.Pairwise (·< ·)):c.m.length≤room:=by
 have h1:=L9 (m:=c.m) (l:=c.R.bI.map (·.1)) (hs.imp (fun {a b} hab e=>by omega)) (fun d hd=>by
  have h2:=(h.days d).1 hd;unfold RP.q at h2;cases hf:c.R.bI.filter (fun p=>p.1==d)with
  |nil=>rw[hf]at h2;exact absurd rfl h2
  |cons p r=>
   have h3:p∈c.R.bI.filter (fun p=>p.1==d):=by rw[hf];simp
   have h4:=List.mem_filter.1 h3
   exact List.mem_map.2 ⟨p,h4.1,by simpa using h4.2⟩)
 rw[List.length_map]at h1;have h2:=h.len;have h3:=h.CV;have h4:=h.cap;omega
theorem L_ {S:PS Pk} {q k:Int} {S':PS Pk} (h:S.append q k=(S',0)):0≤k:=by
 unfold PS.append at h;split at h
 ·cases h
 ·cases hk:tk S k with
  |none=>rw[hk]at h;cases h
  |some c=>exact(gJ hk).1
set_option maxRecDepth 100000 in
theorem Xf {w:World} {cb:Nat} {f:f_} {room nb na:Nat} {c:oh} {A:List (En Pk)} {I:List It} (h:dW w cb f room nb na c.base c.B A c.P c.m) (hR:cZ (bg f.k) room c I) (hn:c.R.items.length<room) (hro:room≤4096) (x:Pk) (r:Nat):
 Calls Tryz.prog 297 #[.pointer (some ⟨cb,0,none⟩),.int .u64 r,.agg (rG x).toArray] w fun e w'=>e=.returned (.tuple #[])∧
  ∃f' P' R' m',dW w' cb f' room nb na c.base c.B A P' m'∧ed w cb f w' f'∧(f'.k=f.k∧f'.ab=f.ab)∧O3 (bg f.k) c x r P' R' m':=by
 obtain⟨k,P',R',h1,h2,h3,h4,h5,h6,h7,h8,h9⟩:=hR.adQ x r hn;obtain⟨k,rfl⟩:∃i:Nat,k=i:=⟨k.toNat,by have:=L_ h2;omega⟩
 have I7:=ae (O3.mk h3 h4 h5 h6 h7 h8 h9);have c1:=h.top.cell 1 rfl;have hcl:=h.top.lt;have HT:=ae (fun W (hk:Kp none' w W)=>acF W _ _ _ _ c.R x (h.old hk).pool hR.rel (by rw[hR.most];omega));rw[h1]at HT;obtain⟨j,hj⟩:∃j:Nat,r%bg f.k=j:=⟨_,rfl⟩
 have hdj:bM (bg f.k) r=(j:Int):=by unfold bM;rw[hj]
 have hjl:j<c.P.qs.length:=by have:=hR.day r;rw[hdj]at this;omega
 have pY:c.P.qs.length≤262144:=by rw[hR.qs];exact hR.qh.2
 rw[hdj]at h2;have htk:=hR.rel.take x;obtain⟨Pt,TU⟩:∃Pt,(c.P.take x).1=Pt:=⟨_,rfl⟩
 have hqt:Pt.qs.length=c.P.qs.length:=by rw[←TU];unfold PS.take;split;rfl;split<;>rfl
 have HAP:=ae (fun W vc (hp:bU W f.pp f.pq vc Pt)=>by
  have:=Xc W _ _ _ _ _ (by rw[←TU]at hp;exact hp) htk.1 j k (by rw[TU,hqt];exact hjl) (by rw[TU,hqt];exact pY) (by rw[h2])
  rw[h2]at this;exact this)
 have Jl:=ae hdj;rw[TU]at HT;have HH:=ae h;have HRR:=ae hR;clear h2 htk h3 h4 h5 h6 h7 h8 h9;clear h hR h1 TU hqt hjl pY hj hdj;obtain⟨fl,id,ln⟩:=x;simp only[rG]at*;refine ay ?_;intro PP HP
 go_enter Tryz.func297,Tryz.ntmps297
 go_upto_region 1 with fail
 have HB0:=ae (ag.new w [.int .u32 (fl:Int),.int .u32 (id:Int),.int .u64 (ln:Int)] 62);have aB:Hid (Kp none' w (w.alloc (.cells #[.int .u32 (fl:Int),.int .u32 (id:Int),.int .u64 (ln:Int)] 62))):=(Kp.refl none' w).alloc _;generalize w.alloc (.cells #[.int .u32 (fl:Int),.int .u32 (id:Int),.int .u64 (ln:Int)] 62)=w0 at*;have e1:=aB.out.cell c1 (fun x=>x);have x0:=HB0.out.cell 0 rfl;have x1:=HB0.out.cell 1 rfl;have x2:=HB0.out.cell 2 rfl;have hq1:¬PF f.pp f.pq f.vc cb:=HH.out.kP.ne (i:=0) (j:=2) rfl rfl (by decide) cb rfl;have hq2:¬PF f.pp f.pq f.vc w.heap.size:=fun e=>by have:=HH.out.pool.lt e;omega
 clear c1
 go_region_held3 (fun w'=>w'.cell? ⟨cb,1,none⟩=some (.pointer (some ⟨f.pp,0,none⟩))∧w'.cell? ⟨w.heap.size,0,none⟩=some (.int .u32 (fl:Int))∧w'.cell? ⟨w.heap.size,1,none⟩=some (.int .u32 (id:Int))∧w'.cell? ⟨w.heap.size,2,none⟩=some (.int .u64 (ln:Int))) (go_keep)
  ((go_at_call 304;refine(HT.out _ aB.out.drew).mono ?_;rintro e w3 ⟨rfl,vc3,hp3,hk3,hn3⟩
    have e1:=hk3.cell e1 hq1;have x0:=hk3.cell x0 hq2;have x1:=hk3.cell x1 hq2;have x2:=hk3.cell x2 hq2;have yO:=ae (((HH.out.old aB.out).old (Kp.refl none' w0).drew).Ah hp3 hk3 hn3)
    clear hp3 hk3 hn3))
 obtain⟨f3,hf3⟩:∃f3:f_,f3= {f with vc:=vc3}:=⟨_,rfl⟩
 have hk3:f3.k=f.k:=by rw[hf3]
 have Hw:f3.pp=f.pp:=by rw[hf3]
 have Hy:f3.pq=f.pq:=by rw[hf3]
 have abt:f3.sp=f.sp:=by rw[hf3]
 have abu:f3.ab=f.ab:=by rw[hf3]
 rw[←hf3]at yO;have fV:=ae yO.out.1;have HT3:Hid (ed w cb f w3 f3):=ae ((ed.old (aB.out.trans (Kp.refl none' w0).drew)).trans yO.out.2);have Ai:=ae (fun W (hk:Kp none' w3 W)=>by have:=Hu (fV.out.old hk) r;rw[hk3,Jl.out]at this;exact this);have abv:=ae (fun W (hk:Kp none' w3 W)=>by have:=HAP.out W f3.vc (by have:=(fV.out.old hk).pool;rw[Hw,Hy]at this;exact this);exact this);have hq3:¬PF f.pp f.pq f3.vc cb:=by have:=fV.out.kP.ne (i:=0) (j:=2) rfl rfl (by decide) cb rfl;rw[Hw,Hy]at this;exact this
 clear yO hf3 HAP HT HB0 aB x0 x1 x2 hq1 hq2 HH
 go_wp2_with fail
 go_region_held3 (fun w'=>w'.cell? ⟨cb,1,none⟩=some (.pointer (some ⟨f.pp,0,none⟩))) (go_keep)
  (first
   |(go_at_call 290;refine(Ai.out _ (Kp.refl none' w3).drew).mono ?_;rintro e w4 ⟨rfl,hk4⟩
     have e1:=hk4.cell e1 (fun x=>x);have aH:=ae ((Kp.refl none' w3).drew.trans hk4)
     clear hk4)
   |(go_at_call 305;refine(abv.out _ aH.out).mono ?_;rintro e w5 ⟨rfl,vc5,Mc,hk5,O4⟩
     have e1:=hk5.cell e1 hq3;have uI:=ae ((fV.out.old aH.out).Ah (by rw[Hw,Hy];exact Mc) (by rw[Hw,Hy];exact hk5) (by rw[Hw,Hy];exact O4))
     clear Mc hk5 O4))
 obtain⟨f5,hf5⟩:∃f5:f_,f5= {f3 with vc:=vc5}:=⟨_,rfl⟩
 have hk5:f5.k=f.k:=by rw[hf5];exact hk3
 have abw:f5.ab=f.ab:=by rw[hf5];exact abu
 have ad4:f5.sp=f.sp:=by rw[hf5];exact abt
 rw[←hf5]at uI;have dB:=ae uI.out.1;have oN:Hid (ed w cb f w5 f5):=ae ((HT3.out.trans (ed.old aH.out)).trans uI.out.2);have ad5:=ae (fun W (hk:Kp none' w5 W)=>by have:=Hu (dB.out.old hk) r;rw[hk5,Jl.out]at this;exact this);have KF:=dB.out.set;have hjz:B_ f5.k c.m (j:Int)= !decide ((j:Int)∈c.m):=by
  have h1:=HRR.out.day r;rw[Jl.out,HRR.out.qs]at h1;have h2:inB f5.k (j:Int)=true:=by
   unfold inB TN;rw[hk5];have h3:((64^f.k:Nat):Int)=(bg f.k:Int):=rfl;rw[h3];simp;omega
  unfold B_;rw[h2,Bool.true_and]
 have HPT:=ae (fun W (hk:Kp none' w5 W)=>by
  have:=adX _ _ _ _ _ (j:Int) W (dB.out.old hk).set dB.out.k3.2 (by have:=HRR.out.Xe KF.sorted;omega)
  rw[hjz]at this;exact this)
 have c0:w5.cell? ⟨cb,0,none⟩=some (.pointer (some ⟨f5.sp,0,none⟩)):=dB.out.top.cell 0 rfl;have a_:=ae (And.intro hk5 abw);clear uI hf5 abv fV HT3 Ai aH hq3 e1 KF hjz hk5 ad4 hk3 Hw Hy abt abu abw
 go_wp2_with fail
 go_region_held3 (fun w'=>w'.cell? ⟨cb,0,none⟩=some (.pointer (some ⟨f5.sp,0,none⟩))) (go_keep)
  (first
   |(go_at_call 290;refine(ad5.out _ (Kp.refl none' w5).drew).mono ?_;rintro e w6 ⟨rfl,hk6⟩
     have c0:=hk6.cell c0 (fun x=>x);have b_:=ae ((Kp.refl none' w5).drew.trans hk6)
     clear hk6)
   |(go_at_call 306;refine(HPT.out _ b_.out).mono ?_;rintro e w7 ⟨rfl,hs7,qj⟩
     have c0:w7.cell? ⟨cb,0,none⟩=some (.pointer (some ⟨f5.sp,0,none⟩)):=qj.cell c0 (dB.out.kP.ne (i:=0) (j:=1) rfl rfl (by decide) cb rfl);have HS7:=ae ((dB.out.old b_.out).QO hs7 qj)
     clear hs7 qj))
 go_wp2_with fail
 refine bodyPost_ret (results_none rfl _ _ _) rfl ?_;refine HP.out _ _ ⟨rfl,f5,P',R',_,HS7.out.1,(oN.out.trans (ed.old b_.out)).trans HS7.out.2,a_.out,?_⟩;have h:=I7.out;rw[Jl.out]at h;by_cases hd:(j:Int)∈c.m
 ·rw[if_pos hd]at h;simp only[hd,decide_true,Bool.not_true,Bool.false_eq_true,if_false];exact h
 ·rw[if_neg hd]at h;simp only[hd,decide_false,Bool.not_false,if_true];exact h
def Ca (w:World) (F:Nat→Prop) (cb room n:Nat) (I:List It):Prop:=∃(f:f_) (nb na:Nat) (c:oh),F=f.all cb∧dW w cb f room nb na c.base c.B c.A c.P c.m∧cZ (bg f.k) room c I∧Dn (bg f.k) c∧nb≤n∧na≤n∧room≤4096
theorem Ca.kp {T:Nat→Prop} {w w':World} {F:Nat→Prop} {cb room n:Nat} {I:List It} (h:Ca w F cb room n I) (k:Kp T w w') (hT:∀b,F b→¬T b):Ca w' F cb room n I:=by
 obtain⟨f,nb,na,c,rfl,h1,h2⟩:=h;exact⟨f,nb,na,c,rfl,h1.kp k hT,h2⟩
theorem Ca.old {w w':World} {F:Nat→Prop} {cb room n:Nat} {I:List It} (h:Ca w F cb room n I) (k:Kp none' w w'):Ca w' F cb room n I:=h.kp k (fun _ _ x=>x)
theorem Ca.lt {w:World} {F:Nat→Prop} {cb room n:Nat} {I:List It} (h:Ca w F cb room n I) {b:Nat} (hF:F b):b<w.heap.size:=by
 obtain⟨f,nb,na,c,rfl,h1,h2⟩:=h;exact h1.TT hF
section
variable {w:World} {cb:Nat} {f:f_} {room nb na:Nat} {c:oh} {I:List It}
theorem cZ.ad6 (hR:cZ (bg f.k) room c I):(I.length:Int)=c.P.n+c.B.length+c.A.length:=by
 have h1:=hR.len;have h2:=hR.rel.n;omega
theorem EM (h:dW w cb f room nb na c.base c.B c.A c.P c.m) (hR:cZ (bg f.k) room c I) (hro:room≤4096):
 Calls Tryz.prog 280 #[.pointer (some ⟨cb,0,none⟩)] w fun e w'=>e=.returned (.int .i64 I.length)∧Kp none' w w':=
 cLen h I hR.ad6 (by rw[hR.rel.n];omega) (by have:=hR.cap;omega)
set_option maxRecDepth 100000 in
theorem aab (h:dW w cb f room nb na c.base c.B c.A c.P c.m) (hR:cZ (bg f.k) room c I) (hd:Dn (bg f.k) c) (hl:I.length<room) (hro:room≤4096) (hnb:nb<9223372036854775807) (hna:na<9223372036854775807) (r fl id ln:Nat) (hr:r<18446744073709551616) (hI:I≠ []):
 Calls Tryz.prog 287 #[.pointer (some ⟨cb,0,none⟩),.int .u64 r,.agg #[.int .u32 fl,.int .u32 id,.int .u64 ln]] w fun e w'=>e=.returned (.bool true)∧
  ∃f' nb' na' c',dW w' cb f' room nb' na' c'.base c'.B c'.A c'.P c'.m∧ed w cb f w' f'∧cZ (bg f'.k) room c' (jo I ⟨r,⟨fl,id,ln⟩⟩)∧Dn (bg f'.k) c'∧nb'≤nb+1∧na'≤na+1:=by
 have c5:=h.top.cell 5 rfl;have c3:=h.top.cell 3 rfl;have c4:=h.top.cell 4 rfl;have c2:=h.top.cell 2 rfl;have HB0:=ae (ag.new w [.int .u32 (fl:Int),.int .u32 (id:Int),.int .u64 (ln:Int)] 62);have aB:Hid (Kp none' w (w.alloc (.cells #[.int .u32 (fl:Int),.int .u32 (id:Int),.int .u64 (ln:Int)] 62))):=(Kp.refl none' w).alloc _;have HL:=ae (fun W (k:Kp none' w W)=>EM (h.old k) hR hro);have hcl:=h.top.lt;have hge:((I.length:Int)≥room)=False:=by simp;omega
 have HH:=ae h;have HRR:=ae hR;have Jl:=ae hd;have hbs:=hR.base;have hpos:0<I.length:=List.length_pos_iff.2 hI;have hz:((I.length:Int)==0)=false:=by simp;omega
 have HW:=ae (fun W (k:Kp none' w W)=>EL (h.old k) r hr hR.base);have hnl:c.R.items.length<room:=by have:=hR.len;omega
 have Gf:=ae (fun W (k:Kp none' w W)=>Xf (h.old k) hR hnl hro ⟨fl,id,ln⟩ r);have hBl:c.B.length<room:=by have:=hR.len;omega
 have hAl:c.A.length<room:=by have:=hR.len;omega
 have gy:=ae (fun W (k:Kp none' w W)=>I_ (h.old k).low hBl hnb r fl id ln);have HPA:=ae (fun W (k:Kp none' w W)=>I_ (h.old k).far hAl hna r fl id ln);have Om:=ae hl;have hsz:=hR.qh;refine ay ?_;intro PP HP;clear h hR hd hl hI hpos hnl hBl hAl hro;generalize Bj:I.length=li at*;generalize hbb:c.base=bs at*;generalize hszz:bg f.k=z at*;have oO:=ae Bj;have uB:=ae hbb;have Aj:=ae hszz;clear Bj hbb hszz
 go_enter Tryz.func287,Tryz.ntmps287
 go_upto_region 1 with fail
 generalize w.alloc (.cells #[.int .u32 (fl:Int),.int .u32 (id:Int),.int .u64 (ln:Int)] 62)=w0 at*;have e5:=aB.out.cell c5 (fun x=>x);refine af [] [0,1,2,3,4,5,6,7,8,9] 10 (by kernel_rfl) (by kernel_rfl) (fun c a d u w h=>by cases d<;>exact h) ?_;simp only[pick,bn];show aA _ _ _ _ _ _
 repeat((first
  |refine ah (by exact rfl) (by as_aux_lemma=>intro W hK;have y5:=hK.cell e5 (fun x=>x);have y6:=hge;go_simp;exact rfl) ?_
  |refine ai (by exact rfl) ?_
  |refine au (by exact rfl) (by as_aux_lemma=>intro W;go_simp;exact⟨rfl,rfl⟩) (by intro W hK;with_reducible first|exact HL.out W (aB.out.trans hK)) ?_);simp only[Act.put,aY])
 show ∀W,_→wpList _ _ _ _ _ _
 intro W1 hK1;have ax:=ae (aB.out.trans hK1);have HB1:=ae (HB0.out.kp hK1 (fun x=>x));clear hK1 aB HB0 e5 c5
 go_wp2_with fail
 refine(HL.out _ ax.out).mono ?_;rintro e w2 ⟨rfl,k2⟩;have ak:=ae (ax.out.trans k2);have HB2:=ae (HB1.out.kp k2 (fun x=>x));clear k2 ax HB1 HL
 go_wp2_with fail
 refine(HW.out _ ak.out).mono ?_;rintro e w3 ⟨rfl,k3⟩;have aF:=ae (ak.out.trans k3);have HB3:=ae (HB2.out.kp k3 (fun x=>x));clear k3 ak HB2 HW;by_cases h1:bs≤r∧r<bs+z
 ·rw[decide_eq_true h1];have x0:=HB3.out.cell 0 rfl;have x1:=HB3.out.cell 1 rfl;have x2:=HB3.out.cell 2 rfl
  go_wp2_with fail
  refine(Gf.out _ aF.out).mono ?_;rintro e w4 ⟨rfl,f',P',R',m',hm,ht,hk,hlt⟩;have H4:=ae hm;have T4:=ae ht;have K4:=ae hk;have L4:=ae hlt;clear hm ht hk hlt Gf gy HPA x0 x1 x2
  go_wp2_with fail
  have hp:=HRR.out.LH Jl.out (x:=⟨r,⟨fl,id,ln⟩⟩) (by rw[uB.out];exact h1.1) (by rw[uB.out];exact h1.2) hr (by rw[oO.out];exact Om.out) L4.out.a1 L4.out.a2 L4.out.a3 L4.out.a4 L4.out.a5 L4.out.a6 L4.out.a7;refine HP.out _ _ ⟨rfl,f',nb,na,{c with P:=P',R:=R',m:=m'},by have:=H4.out;rw[←uB.out]at this;exact this,(ed.old aF.out).trans T4.out,by rw[K4.out.1,Aj.out];exact hp.1,by rw[K4.out.1,Aj.out];exact hp.2,by omega,by omega⟩
 ·rw[decide_eq_false h1];have d2:=aF.out.cell c2 (fun x=>x);by_cases h2:r<bs
  ·have hlt:((r:Int)<bs)=True:=by simp;omega
   have x0:=HB3.out.cell 0 rfl;have x1:=HB3.out.cell 1 rfl;have x2:=HB3.out.cell 2 rfl
   go_wp2_with fail
   have d3:=aF.out.cell c3 (fun x=>x);refine af [] [0,1,2,3,4,5] 6 (by kernel_rfl) (by kernel_rfl) (fun c a d u w h=>by cases d<;>exact h) ?_;simp only[pick,bn];show aA _ _ _ _ _ _
   repeat((first
     |refine ah (by exact rfl) (by as_aux_lemma=>intro W hK;have y3:=hK.cell d3 (fun x=>x);have y0:=hK.cell x0 (fun x=>x);have y1:=hK.cell x1 (fun x=>x);have y2:=hK.cell x2 (fun x=>x);go_simp;exact rfl) ?_
     |refine ai (by exact rfl) ?_);simp only[Act.put,aY])
   show ∀W,_→wpList _ _ _ _ _ _
   intro W4 hK4;have aH:=ae (aF.out.trans hK4);clear hK4 aF HB3 x0 x1 x2 d2 d3
   go_wp2_with fail
   refine(gy.out _ aH.out).mono ?_;rintro e w5 ⟨rfl,F',Mc,k5,n5⟩;have H5:=ae ((HH.out.old aH.out).QP Mc k5 n5);have K4:=ae (ed.old (cb:=cb) (f:=f) aH.out);clear Mc k5 n5 gy HPA Gf aH
   go_wp2_with fail
   have hp:=HRR.out.WI Jl.out (e:=⟨r,nb,⟨fl,id,ln⟩⟩) (by rw[uB.out];exact h2) (by rw[oO.out];exact Om.out);refine HP.out _ _ ⟨rfl,{f with FB:=F'},nb+1,na,{c with B:=iQ c.B ⟨r,nb,⟨fl,id,ln⟩⟩},by have:=H5.out.1;rw[←uB.out]at this;exact this,K4.out.trans H5.out.2,by show cZ (bg f.k) _ _ _;rw[Aj.out];exact hp.1,by show Dn (bg f.k) _;rw[Aj.out];exact hp.2,Nat.le_refl _,by omega⟩
  ·have hlt:((r:Int)<bs)=False:=by simp;omega
   have x0:=HB3.out.cell 0 rfl;have x1:=HB3.out.cell 1 rfl;have x2:=HB3.out.cell 2 rfl
   go_wp2_with fail
   have d4:=aF.out.cell c4 (fun x=>x);refine af [] [0,1,2,3,4,5] 6 (by kernel_rfl) (by kernel_rfl) (fun c a d u w h=>by cases d<;>exact h) ?_;simp only[pick,bn];show aA _ _ _ _ _ _
   repeat((first
     |refine ah (by exact rfl) (by as_aux_lemma=>intro W hK;have y3:=hK.cell d4 (fun x=>x);have y0:=hK.cell x0 (fun x=>x);have y1:=hK.cell x1 (fun x=>x);have y2:=hK.cell x2 (fun x=>x);go_simp;exact rfl) ?_
     |refine ai (by exact rfl) ?_);simp only[Act.put,aY])
   show ∀W,_→wpList _ _ _ _ _ _
   intro W4 hK4;have aH:=ae (aF.out.trans hK4);clear hK4 aF HB3 x0 x1 x2 d2 d4
   go_wp2_with fail
   refine(HPA.out _ aH.out).mono ?_;rintro e w5 ⟨rfl,F',Mc,k5,n5⟩;have H5:=ae ((HH.out.old aH.out).QQ Mc k5 n5);have K4:=ae (ed.old (cb:=cb) (f:=f) aH.out);clear Mc k5 n5 gy HPA Gf aH
   go_wp2_with fail
   have hp:=HRR.out.WJ Jl.out (e:=⟨r,na,⟨fl,id,ln⟩⟩) (by rw[uB.out];show bs+z≤r;omega) hr (by rw[oO.out];exact Om.out);refine HP.out _ _ ⟨rfl,{f with FA:=F'},nb,na+1,{c with A:=iQ c.A ⟨r,na,⟨fl,id,ln⟩⟩},by have:=H5.out.1;rw[←uB.out]at this;exact this,K4.out.trans H5.out.2,by show cZ (bg f.k) _ _ _;rw[Aj.out];exact hp.1,by show Dn (bg f.k) _;rw[Aj.out];exact hp.2,by omega,Nat.le_refl _⟩
end
end Go.Proofs.YtjiehhlghjnfhaaGreatDoor.cq
namespace Go.Proofs.YtjiehhlghjnfhaaGreatDoor.cq
open Go Go.RowKit Go.Shelf Go.Proofs.YtjiehhlghjnfhaaGreatDoor
section
variable {w:World} {cb:Nat} {f:f_} {room nb na:Nat} {c:oh} {I:List It}
set_option maxRecDepth 100000 in
theorem aac (h:dW w cb f room nb na c.base c.B c.A c.P c.m) (hR:cZ (bg f.k) room c []) (hd:Dn (bg f.k) c) (hl:0<room) (hro:room≤4096) (r fl id ln:Nat) (hr:r<18446744073709551616):
 Calls Tryz.prog 287 #[.pointer (some ⟨cb,0,none⟩),.int .u64 r,.agg #[.int .u32 fl,.int .u32 id,.int .u64 ln]] w fun e w'=>e=.returned (.bool true)∧
  ∃f' c',dW w' cb f' room nb na c'.base c'.B c'.A c'.P c'.m∧ed w cb f w' f'∧cZ (bg f'.k) room c' [⟨r,⟨fl,id,ln⟩⟩]∧Dn (bg f'.k) c':=by
 obtain⟨I,hI⟩:∃I:List It,I=[]:=⟨_,rfl⟩
 rw[←hI]at hR;have hl':I.length<room:=by rw[hI];exact hl
 have c5:=h.top.cell 5 rfl;have c3:=h.top.cell 3 rfl;have c4:=h.top.cell 4 rfl;have c2:=h.top.cell 2 rfl;have HB0:=ae (ag.new w [.int .u32 (fl:Int),.int .u32 (id:Int),.int .u64 (ln:Int)] 62);have aB:Hid (Kp none' w (w.alloc (.cells #[.int .u32 (fl:Int),.int .u32 (id:Int),.int .u64 (ln:Int)] 62))):=(Kp.refl none' w).alloc _;have HL:=ae (fun W (k:Kp none' w W)=>EM (h.old k) hR hro);have hcl:=h.top.lt;have hge:((I.length:Int)≥room)=False:=by simp;omega
 have HH:=ae h;have HRR:=ae hR;have Jl:=ae hd;have hbs:=hR.base;have hz:((I.length:Int)==0)=true:=by rw[hI];rfl
 rw[hI]at hR;clear hl';have hrb:=hR.ZU r hr;have hfz:=h.top.fz 2;have hnl:c.R.items.length<room:=by have:=hR.len;simp at this;omega
 have HW:=ae (fun W (hm:dW W cb f room nb na r c.B c.A c.P c.m)=>EL hm r hr hr);have Gf:=ae (fun W (hm:dW W cb f room nb na r c.B c.A c.P c.m)=>Xf (c:= {c with base:=r}) hm hrb.1 hnl hro ⟨fl,id,ln⟩ r);have hsz:=hR.qh;have HRB:=ae hrb;have Jm:=ae (fun P' R' m' (hlt:O3 (bg f.k) {c with base:=r} ⟨fl,id,ln⟩ r P' R' m')=>hrb.1.LH hrb.2 (x:=⟨r,⟨fl,id,ln⟩⟩) (Nat.le_refl r) (by show r<r+bg f.k;omega) hr hl hlt.a1 hlt.a2 hlt.a3 hlt.a4 hlt.a5 hlt.a6 hlt.a7);have hwt:decide (r≤r∧r<r+bg f.k)=true:=by simp;omega
 refine ay ?_;intro PP HP;clear h hR hd hl hI hro hrb hnl HRR;generalize I.length=li at*
 go_enter Tryz.func287,Tryz.ntmps287
 go_upto_region 1 with fail
 generalize w.alloc (.cells #[.int .u32 (fl:Int),.int .u32 (id:Int),.int .u64 (ln:Int)] 62)=w0 at*;have e5:=aB.out.cell c5 (fun x=>x);refine af [] [0,1,2,3,4,5,6,7,8,9] 10 (by kernel_rfl) (by kernel_rfl) (fun c a d u w h=>by cases d<;>exact h) ?_;simp only[pick,bn];show aA _ _ _ _ _ _
 repeat((first
  |refine ah (by exact rfl) (by as_aux_lemma=>intro W hK;have y5:=hK.cell e5 (fun x=>x);have y6:=hge;go_simp;exact rfl) ?_
  |refine ai (by exact rfl) ?_
  |refine au (by exact rfl) (by as_aux_lemma=>intro W;go_simp;exact⟨rfl,rfl⟩) (by intro W hK;with_reducible first|exact HL.out W (aB.out.trans hK)) ?_);simp only[Act.put,aY])
 show ∀W,_→wpList _ _ _ _ _ _
 intro W1 hK1;have ax:=ae (aB.out.trans hK1);have HB1:=ae (HB0.out.kp hK1 (fun x=>x));clear hK1 aB HB0 e5 c5
 go_wp2_with fail
 refine(HL.out _ ax.out).mono ?_;rintro e w2 ⟨rfl,k2⟩;have ak:=ae (ax.out.trans k2);have HB2:=ae (HB1.out.kp k2 (fun x=>x));clear k2 ax HB1 HL;have d2:=ak.out.cell c2 (fun x=>x);have Xg:=(HH.out.old ak.out).top.fz 2
 go_wp2_with fail
 have yO:=ae ((HH.out.old ak.out).LZ r);have hne:w.heap.size≠cb:=by omega
 have HB3:=ae (HB2.out.bY (a:=⟨cb,2,none⟩) hne (.int .u64 (r:Int)));have T3:Hid (ed w cb f (w2.setCell ⟨cb,2,none⟩ (.int .u64 (r:Int))) f):=ae ((ed.old ak.out).trans yO.out.2);generalize w2.setCell ⟨cb,2,none⟩ (.int .u64 (r:Int))=w3 at*;refine(HW.out _ yO.out.1).mono ?_;rintro e w4 ⟨rfl,k4⟩;have jR:=ae (yO.out.1.old k4);have T4:=ae (T3.out.trans (ed.old k4));have HB3:=ae (HB3.out.kp k4 (fun x=>x));rw[hwt];clear k4 ak HB2 HW yO T3 d2 Xg c2 hfz;have x0:=HB3.out.cell 0 rfl;have x1:=HB3.out.cell 1 rfl;have x2:=HB3.out.cell 2 rfl
 go_wp2_with fail
 refine(Gf.out _ jR.out).mono ?_;rintro e w5 ⟨rfl,f',P',R',m',hm,ht,hk,hlt⟩;have H5:=ae hm;have T5:=ae ht;have K5:=ae hk;have L5:=ae hlt;clear hm ht hk hlt Gf x0 x1 x2
 go_wp2_with fail
 have hp:=Jm.out P' R' m' L5.out;exact HP.out _ _ ⟨rfl,f',{c with base:=r,P:=P',R:=R',m:=m'},H5.out,T4.out.trans T5.out,by rw[K5.out.1];exact hp.1,by rw[K5.out.1];exact hp.2⟩
end
theorem aad {w:World} {F:Nat→Prop} {cb room n:Nat} {I:List It} (h:Ca w F cb room n I) (hl:I.length<room) (hn:n<9223372036854775807) (r fl id ln:Nat) (hr:r<18446744073709551616):
 Calls Tryz.prog 287 #[.pointer (some ⟨cb,0,none⟩),.int .u64 r,.agg #[.int .u32 fl,.int .u32 id,.int .u64 ln]] w fun e w'=>e=.returned (.bool true)∧
  ∃F',Ca w' F' cb room (n+1) (jo I ⟨r,⟨fl,id,ln⟩⟩)∧Kp F w w'∧Nw w F F':=by
 obtain⟨f,nb,na,c,rfl,h1,h2,h3,h4,h5,h6⟩:=h;cases I with
 |nil=>
  refine(aac h1 h2 h3 (by simpa using hl) h6 r fl id ln hr).mono ?_;rintro e w' ⟨he,f',c',a1,a2,a3,a4⟩;exact⟨he,_,⟨f',nb,na,c',rfl,a1,a3,a4,by omega,by omega,h6⟩,a2.kp,a2.nw⟩
 |cons x T=>
  refine(aab h1 h2 h3 hl h6 (by omega) (by omega) r fl id ln hr (by simp)).mono ?_;rintro e w' ⟨he,f',nb',na',c',a1,a2,a3,a4,a5,a6⟩;exact⟨he,_,⟨f',nb',na',c',rfl,a1,a3,a4,by omega,by omega,h6⟩,a2.kp,a2.nw⟩
end Go.Proofs.YtjiehhlghjnfhaaGreatDoor.cq
namespace Go.Proofs.YtjiehhlghjnfhaaGreatDoor.cq
open Go Go.RowKit Go.Shelf Go.Proofs.YtjiehhlghjnfhaaGreatDoor
def Xh (room sz:Nat):PS Pk:=⟨[],List.replicate sz (-1,-1),room,-1,0⟩
def Md (room sz:Nat):RP Pk:=⟨room,sz,[],[],[],0⟩
def Xi (room sz:Nat):oh:=⟨0,[],[],Xh room sz,Md room sz,[]⟩
theorem aae (room sz:Nat) (h1:1≤room) (h2:room≤4096):Rel (Xh room sz) (Md room sz) where
 most:=rfl
 rQ:=⟨by show(1:Int)≤room;omega,by show(room:Int)≤4096;omega⟩
 queues:=by show(sz:Int)=((List.replicate sz ((-1:Int),(-1:Int))).length:Int);rw[List.length_replicate]
 never:=rfl
 room:=by show(0:Int)≤room;omega
 count:=rfl
 n:=rfl
 find:=fun h=>by unfold tk Xh RP.find Md;simp
 oK:=List.Pairwise.nil
 uF:=fun p hp=>by cases hp
 free:=rfl
 wZ:=List.Pairwise.nil
 lI:=fun b hb=>by cases hb
 queue:=fun q hd tl hq=>by
  have h3:(List.replicate sz ((-1:Int),(-1:Int)))[q]? =some (hd,tl):=hq;rw[List.getElem?_replicate]at h3;split at h3
  ·injection h3 with h3
   injection h3 with h4 h5
   subst h4 h5;exact⟨rfl,rfl⟩
  ·cases h3
 gZ:=List.Pairwise.nil
 uG:=fun p hp=>by cases hp
 queued:=fun h c hc=>by have:=(gJ hc).2.2.1;cases this
 iG:=fun h hh=>by cases hh
theorem aaf (room sz:Nat) (h1:1≤room) (h2:room≤4096) (hs:64≤sz∧sz≤262144):cZ sz room (Xi room sz) [] where
 rel:=aae room sz h1 h2
 qs:=List.length_replicate
 most:=rfl
 qh:=hs
 base:=by show 0<_;decide
 lS:=List.Pairwise.nil
 kM:=fun i hi=>by cases hi
 low:=fun r hr=>rfl
 win:=fun r _ _=>rfl
 far:=fun r _=>rfl
 bin:=fun s hs=>by cases hs
 EF:=fun s hs=>by cases hs
 sB:=List.Pairwise.nil
 sA:=List.Pairwise.nil
 days:=fun d=>by show d∈([]:List Int)↔RP.q (Md room sz) d≠ [];unfold RP.q Md;simp
 len:=rfl
 CV:=rfl
 cap:=Nat.zero_le _
set_option maxRecDepth 100000 in
theorem acH (room lv:Nat) (h1:1≤room) (h2:room≤4096) (hl:1≤lv∧lv≤3) (w:World):
 Calls Tryz.prog 148 #[.int .i64 room,.int .i64 lv] w fun e w'=>∃cb F,e=.returned (.tuple #[.pointer (some ⟨cb,0,none⟩),.int .i64 0])∧Ca w' F cb room 0 []∧(∀b,F b→w.heap.size≤b)∧Kp none' w w':=by
 have HB:=ae (fun W=>V8 room h1 h2 W);have HS:=ae (fun W=>adW lv W hl.1 hl.2);have hz:=Ag hl;have HZ:=ae (fun W p bl B (h:SR W p lv bl B [])=>(WX p lv bl B [] W h hl.2).mono (R':=fun e w'=>e=.returned (.int .i64 (bg lv:Nat))∧Kp none' W w') fun e w' ⟨a,b⟩=>⟨a,wK b⟩);have F_:=ae (fun W=>adZ (room:Int) (bg lv) W (by omega) (by omega) hz.2);have HR:=ae (aaf room (bg lv) h1 h2 hz);have HL:=ae hl;have H2:=ae h2;refine ay ?_;intro PP HP;clear h1 h2 hl;generalize hszz:bg lv=z at*;have Aj:=ae hszz;clear hszz
 go_enter Tryz.func148,Tryz.ntmps148
 go_wp2_with fail
 refine(HB.out w).mono ?_;rintro e w1 ⟨bb,FB,rfl,p1,f1,k1⟩;have P1:=ae p1;have F1:=ae f1;have K1:=ae k1;clear p1 f1 k1
 go_wp2_with fail
 refine(HS.out w1).mono ?_;rintro e w2 ⟨sp,sl,sB,rfl,p2,f2,k2⟩;have P2:=ae p2;have F2:=ae f2;have K2:=ae k2;clear p2 f2 k2
 go_wp2_with fail
 refine(HB.out w2).mono ?_;rintro e w3 ⟨ab,FA,rfl,p3,f3,k3⟩;have P3:=ae p3;have F3:=ae f3;have K3:=ae k3;clear p3 f3 k3
 go_wp2_with fail
 refine(HZ.out w3 sp sl sB (P2.out.old K3.out)).mono ?_;rintro e w4 ⟨rfl,k4⟩;have K4:=ae k4;clear k4
 go_wp2_with fail
 refine(F_.out w4).mono ?_;rintro e w5 ⟨pp,pq,rfl,p5,f5,g5,k5⟩;have P5:=ae p5;have F5:=ae f5;have G5:=ae g5;have K5:=ae k5;clear p5 f5 g5 k5
 go_wp2_with fail
 have ka:Kp none' w5 (w5.alloc (.cells #[.pointer (some ⟨sp,0,none⟩),.pointer (some ⟨pp,0,none⟩),.int .u64 0,.pointer (some ⟨bb,0,none⟩),.pointer (some ⟨ab,0,none⟩),.int .i64 room] 361)):=(Kp.refl none' w5).alloc _;have ad7:=((((K1.out.trans K2.out).trans K3.out).trans K4.out).trans K5.out).trans ka;have s1:=K1.out.size;have s2:=K2.out.size;have s3:=K3.out.size;have s4:=K4.out.size;have s5:=K5.out.size;refine HP.out _ _ ⟨w5.heap.size,_,rfl,⟨⟨sp,sl,lv,sB,pp,pq,.slice none 0 0,bb,ab,FB,FA⟩,0,0,Xi room z,rfl,?_,?_,(fun s hs=>by cases hs),Nat.le_refl _,Nat.le_refl _,H2.out⟩,?_,ad7⟩
 ·refine⟨ag.new _ _ _,P2.out.old (((K3.out.trans K4.out).trans K5.out).trans ka),P5.out.old ka,P1.out.old ((((K2.out.trans K3.out).trans K4.out).trans K5.out).trans ka),P3.out.old ((K4.out.trans K5.out).trans ka),HL.out,?_⟩;have b1:∀b,FB b→b<w1.heap.size:=fun b hb=>P1.out.lt hb
  have b2:∀b,Fp sp sl sB lv b→w1.heap.size≤b∧b<w2.heap.size:=fun b hb=>⟨F2.out b hb,P2.out.lt hb⟩
  have b3:∀b,FA b→w2.heap.size≤b∧b<w3.heap.size:=fun b hb=>⟨F3.out b hb,P3.out.lt hb⟩
  have b5:∀b,PF pp pq (.slice none 0 0) b→w4.heap.size≤b∧b<w5.heap.size:=fun b hb=>by
   refine⟨?_,P5.out.lt hb⟩;rcases hb with rfl|rfl|hb
   ·exact F5.out
   ·exact G5.out
   ·cases hb
  unfold LY f_.parts;simp only[List.pairwise_cons,List.mem_cons,List.not_mem_nil,or_false,forall_eq_or_imp,forall_eq];refine⟨⟨fun h=> ?_,fun h=> ?_,fun h=> ?_,fun h=> ?_⟩,⟨fun b e h=> ?_,fun b e h=> ?_,fun b e h=> ?_⟩,⟨fun b e h=> ?_,fun b e h=> ?_⟩,(fun b e h=> ?_),(fun a ha=>ha.elim),List.Pairwise.nil⟩
  ·have:=b2 _ h;omega
  ·have:=b5 _ h;omega
  ·have:=b1 _ h;omega
  ·have:=b3 _ h;omega
  ·have:=b2 b e;have:=b5 b h;omega
  ·have:=b2 b e;have:=b1 b h;omega
  ·have:=b2 b e;have:=b3 b h;omega
  ·have:=b5 b e;have:=b1 b h;omega
  ·have:=b5 b e;have:=b3 b h;omega
  ·have:=b1 b e;have:=b3 b h;omega
 ·show cZ (bg lv) room (Xi room z) [];rw[Aj.out];exact HR.out
 ·rintro b ⟨F,hF,hb⟩;simp only[f_.parts,List.mem_cons,List.not_mem_nil,or_false]at hF;rcases hF with rfl|rfl|rfl|rfl|rfl
  ·have hb:b=w5.heap.size:=hb;omega
  ·have:=F2.out b hb;omega
  ·rcases hb with rfl|rfl|hb
   ·have:=F5.out;omega
   ·have:=G5.out;omega
   ·cases hb
  ·exact F1.out b hb
  ·have:=F3.out b hb;omega
attribute [local go_sem] Oper.semAt_some
def rU (S:PS Pk) (j:Nat):Int:=match S.qs[j]? with|some (h,_)=>h|none=> -1
theorem O5 (w:World) (p bq:Nat) (vc:Value) (S:PS Pk) (R:RP Pk) (h:bU w p bq vc S) (hR:Rel S R) (j:Nat) (hj:j<S.qs.length) (hq:S.qs.length≤262144):
 Calls Tryz.prog 289 #[.pointer (some ⟨p,0,none⟩),.int .i64 j] w fun e w'=>e=.returned (.tuple #[.int .i64 (if rU S j= -1 then 0 else rU S j),.bool (decide (rU S j≠ -1))])∧w=w':=by
 have c1:=h.top.cell 1 rfl;have HH:=ae (abr w p bq vc S h j hj hq);obtain⟨hd,tl,e⟩:∃hd tl,S.qs[j]? =some (hd,tl):=⟨_,_,(List.getElem?_eq_some_iff.2 ⟨hj,rfl⟩)⟩
 obtain⟨e0,e1⟩:=h.end j hd tl e;have hdr:=hR.heads (hd,tl) (List.mem_of_getElem? e);simp only at hdr;have HF:rU S j=hd:=by unfold rU;rw[e]
 rw[HF];clear h hR e HF;generalize S.qs.length=n at*;by_cases h2:hd= -1
 ·subst h2
  go_enter Tryz.func289,Tryz.ntmps289
  go_wp2_with(go_at_call 301;refine(HH.out).mono ?_;rintro e w' ⟨rfl,rfl⟩)
  go_ret2
  exact⟨rfl,rfl⟩
 ·have h2':(hd== -1)=false:=by simpa using h2
  rw[if_neg h2,decide_eq_true h2]
  go_enter Tryz.func289,Tryz.ntmps289
  go_wp2_with(go_at_call 301;refine(HH.out).mono ?_;rintro e w' ⟨rfl,rfl⟩)
  go_ret2
  exact⟨rfl,rfl⟩
set_option maxRecDepth 100000 in
theorem ad8 (w:World) (p bq:Nat) (vc:Value) (S:PS Pk) (h:bU w p bq vc S) (i:Nat) (c:PC Pk) (hk:tk S i=some c) (hl:S.cs.length≤4096):
 Calls Tryz.prog 291 #[.pointer (some ⟨p,0,none⟩),.int .i64 i] w fun e w'=>e=.returned (.tuple #[.agg (rG c.x).toArray,.bool true])∧Kp none' w w':=by
 have HT:=ae (fun W (k:Kp none' w W)=>Jh W p bq vc S (h.old k) i (by rw[hk];rfl) hl);have c0:=h.top.cell 0 rfl;have hbl:=h.top.lt;obtain⟨_,h1,hc,_⟩:=gJ hk;simp only[Int.toNat_natCast]at hc;obtain⟨g,cap,rfl,TQ,Jj,TR,_,_,_⟩:=h.cell i c hc;have hgl:=(aG h.cells rfl).2;clear h hk hc;obtain⟨⟨fl,id,ln⟩,nx,tb,qb⟩:=c;show Calls _ _ _ _ fun e w'=>e=.returned (.tuple #[.agg #[.int .u32 (fl:Int),.int .u32 (id:Int),.int .u64 (ln:Int)],.bool true])∧Kp none' w w'
 simp only at TQ Jj TR;generalize S.cs.length=N at*
 go_enter Tryz.func291,Tryz.ntmps291
 go_wp2_with fail
 refine(HT.out _ (((Kp.refl none' w).alloc _).alloc _)).mono ?_;rintro e w2 ⟨rfl,rfl⟩
 go_wp2_with fail
 exact iJ (by exact rfl) ((ag.new w [.int .u32 (fl:Int),.int .u32 (id:Int),.int .u64 (ln:Int)] 62).alloc _) _ Tryz.underlying62 rfl fZ (by exact rfl) ⟨rfl,(((Kp.refl none' w).alloc _).alloc _)⟩
set_option maxRecDepth 100000 in
theorem ad9 (w:World) (p bq:Nat) (vc:Value) (S:PS Pk) (R:RP Pk) (h:bU w p bq vc S) (hR:Rel S R) (j i:Nat) (pY:S.qs.length≤262144) {S1:PS Pk} (hS:S.pop j=(S1,(i:Int),true)):
 Calls Tryz.prog 293 #[.pointer (some ⟨p,0,none⟩),.int .i64 j] w fun e w'=>e=.returned (.tuple #[.int .i64 i,.bool true])∧Jg w w' p bq vc S1:=by
 have c0:=h.top.cell 0 rfl;have c1:=h.top.cell 1 rfl;have hl:=hR.len;obtain⟨hj,tl,hq⟩:j<S.qs.length∧∃tl,S.qs[j]? =some ((i:Int),tl):=by
  unfold PS.pop at hS;split at hS
  ·cases hS
  ·rename_i h1
   have hj:j<S.qs.length:=by omega
   refine⟨hj,?_⟩;obtain⟨hd,tl,hq⟩:∃hd tl,S.qs[j]? =some (hd,tl):=⟨_,_,(List.getElem?_eq_some_iff.2 ⟨hj,rfl⟩)⟩
   simp only[Int.toNat_natCast,hq]at hS;split at hS
   ·cases hS
   ·injection hS with _ hS
    injection hS with hS _
    exact⟨tl,by rw[hq,hS]⟩
 have hi0:¬(i:Int)= -1:=by omega
 have HD:=ae (by have:=O5 w p bq vc S R h hR j hj pY;unfold rU at this;rw[hq]at this;simp only at this;rw[if_neg hi0,decide_eq_true hi0]at this;exact this);rcases hR.ends hq with⟨e,_⟩|⟨c,_,hk,hcq,_,_⟩
 ·exact absurd e hi0
 obtain⟨k0,k1,hc,_⟩:=gJ hk;simp only[Int.toNat_natCast]at hc;have hi:i<S.cs.length:=by omega
 obtain⟨e0,e1⟩:=h.end j i tl hq;obtain⟨g,cap,rfl,_,_,_,Jj,_,O1⟩:=h.cell i c hc;obtain⟨n1,n2,n3⟩:=h.ne;have hpb:p≠bq:=n1;have hgp:p≠g:=fun e=>n2 (by rw[e];rfl)
 have hgq:bq≠g:=fun e=>n3 (by rw[e];rfl)
 have fg:=fun j=>mZ h.cells j
 have fq:=fun j=>h.queues.fz j
 have hM:=ae h;have CW:PF p bq (.slice (some ⟨g,0,none⟩) S.cs.length cap) g:=.inr (.inr rfl);have hpq:PF p bq (.slice (some ⟨g,0,none⟩) S.cs.length cap) bq:=.inr (.inl rfl);have hnx:nx S.cs i=c.next:=by unfold nx;rw[hc]
 have zD:jq S.cs i (-1) false=S.cs.set i {c with next:= -1,queued:=false}:=by unfold jq;rw[hc]
 have hst1:=(hM.out.EI j ((i:Int),tl) (c.next,tl) 0 (.int .i32 c.next) (by omega) hq rfl);have Af:=((Kp.refl (PF p bq (.slice (some ⟨g,0,none⟩) S.cs.length cap)) w).set (p:=⟨bq,j*2+0,none⟩) (.inl hpq) (.int .i32 c.next));have Xd:Hid (Nw w (PF p bq (.slice (some ⟨g,0,none⟩) S.cs.length cap)) (PF p bq (.slice (some ⟨g,0,none⟩) S.cs.length cap))):=Nw.refl _ _;by_cases h2:c.next= -1
 ·have hS1:S1= {S with cs:=S.cs.set i {c with next:= -1,queued:=false},qs:=S.qs.set j (-1,-1)}:=by
   have:S.pop j=({S with cs:=S.cs.set i {c with next:= -1,queued:=false},qs:=S.qs.set j (-1,-1)},(i:Int),true):=by
    unfold PS.pop;rw[if_neg (by omega)];simp[hq,hnx,h2,zD]
   rw[this]at hS;injection hS with hS _;exact hS.symm
  rw[hS1];have hst:=((hst1.EI j (c.next,tl) (c.next,-1) 1 (.int .i32 (-1)) (by omega) (by simp[hj]) rfl).yN i c {c with next:= -1} 3 (.int .i32 (-1)) (by omega) hc rfl).yN i {c with next:= -1} {c with next:= -1,queued:=false} 5 (.bool false) (by omega) (by simp[hi]) rfl;have hkp:=(((Af.set (p:=⟨bq,j*2+1,none⟩) (.inl hpq) (.int .i32 (-1))).set (p:=⟨g,i*6+3,none⟩) (.inl CW) (.int .i32 (-1))).set (p:=⟨g,i*6+5,none⟩) (.inl CW) (.bool false));simp only[List.set_set,Nat.add_zero,h2]at hst hkp;rw[h2]at Jj;have HST:=ae hst;have xJ:=ae hkp;clear h hR hS hS1 hk hcq hst hkp hst1 Af zD CW hpq hq hc n1 n2 n3 hM hnx h2 hi0;generalize S.qs.length=n at*;generalize S.cs.length=m at*
  go_enter Tryz.func293,Tryz.ntmps293
  go_wp2_with(go_at_call 289;refine(HD.out).mono ?_;rintro e w' ⟨rfl,rfl⟩)
  go_region
  go_wp2
  go_ret2
  exact⟨rfl,_,HST.out.drew,xJ.out.drew,Xd.out⟩
 ·have hS1:S1= {S with cs:=S.cs.set i {c with next:= -1,queued:=false},qs:=S.qs.set j (c.next,tl)}:=by
   have:S.pop j=({S with cs:=S.cs.set i {c with next:= -1,queued:=false},qs:=S.qs.set j (c.next,tl)},(i:Int),true):=by
    unfold PS.pop;rw[if_neg (by omega)];simp[hq,hnx,h2,zD]
   rw[this]at hS;injection hS with hS _;exact hS.symm
  have h2':(c.next== -1)=false:=by simpa using h2
  rw[hS1];have hst:=(hst1.yN i c {c with next:= -1} 3 (.int .i32 (-1)) (by omega) hc rfl).yN i {c with next:= -1} {c with next:= -1,queued:=false} 5 (.bool false) (by omega) (by simp[hi]) rfl;have hkp:=((Af.set (p:=⟨g,i*6+3,none⟩) (.inl CW) (.int .i32 (-1))).set (p:=⟨g,i*6+5,none⟩) (.inl CW) (.bool false));simp only[List.set_set,Nat.add_zero]at hst hkp;have HST:=ae hst;have xJ:=ae hkp;clear h hR hS hS1 hk hcq hst hkp hst1 Af zD CW hpq hq hc n1 n2 n3 hM hnx h2 hi0;generalize S.qs.length=n at*;generalize S.cs.length=m at*
  go_enter Tryz.func293,Tryz.ntmps293
  go_wp2_with(go_at_call 289;refine(HD.out).mono ?_;rintro e w' ⟨rfl,rfl⟩)
  go_region
  go_wp2
  go_ret2
  exact⟨rfl,_,HST.out.drew,xJ.out.drew,Xd.out⟩
end Go.Proofs.YtjiehhlghjnfhaaGreatDoor.cq
