/- What the functions of package flow compute, at things of kind own: Set, Len. -/
import Derived.Test.YtjiehhlghjnfhaaGreatDoorMTopLineF19
import Derived.Test.YtjiehhlghjnfhaaGreatDoorMTopLineF6
import Derived.Test.YtjiehhlghjnfhaaGreatDoorShelf
import Derived.Test.YtjiehhlghjnfhaaGreatDoorMTopLineF9
import Derived.Test.YtjiehhlghjnfhaaGreatDoorMTopLineF1
import Derived.Test.YtjiehhlghjnfhaaGreatDoorMTopLineF8
set_option linter.unusedVariables false
set_option linter.unusedSimpArgs false
set_option maxHeartbeats 4000000
namespace Go.Proofs.YtjiehhlghjnfhaaGreatDoor.eQ
open Go.RowKit Go.Proofs.YtjiehhlghjnfhaaGreatDoor
def Ap (id:Nat) (x:Th) (E:List (Nat×Th)):List (Nat×Th):=E.map (fun e=>if e.1=id then(id,x)else e)
theorem EY {S:bD Th} {q id:Nat} {y:Th} (x:Th) (hq:q<S.length) (ht:bJ S q=some (id,y)) (i k:Nat) (z:Th) (h:bJ (S.set q (some (id,x))) i=some (k,z)):∃z',bJ S i=some (k,z'):=by
 rw[fU S q i _ hq]at h;by_cases hi:i=q
 ·rw[if_pos hi]at h;simp only[Option.some.injEq,Prod.mk.injEq]at h;exact⟨y,by rw[hi,ht,h.1]⟩
 ·rw[if_neg hi]at h;exact⟨z,h⟩
theorem Uh {S:bD Th} {q id:Nat} {y:Th} (x:Th) (hq:q<S.length) (ht:bJ S q=some (id,y)) (i:Nat) (h:bJ S i≠none):bJ (S.set q (some (id,x))) i≠none:=by
 rw[fU S q i _ hq];split
 ·simp
 ·exact h
theorem XG {hm:Nat→Nat} {S:bD Th} (h:jE hm S) {q id:Nat} {y:Th} (x:Th) (hq:q<S.length) (ht:bJ S q=some (id,y)):jE hm (S.set q (some (id,x))):=by
 refine⟨fun k=>by rw[List.length_set];exact h.home k,fun i k z hi he d hd=> ?_,fun i j k z z2 hi hj he hf=> ?_⟩
 ·rw[List.length_set]at hi hd ⊢;obtain⟨z',he'⟩:=EY x hq ht i k z he;exact Uh x hq ht _ (h.path i k z' hi he' d hd)
 ·rw[List.length_set]at hi hj;obtain⟨z',he'⟩:=EY x hq ht i k z he;obtain⟨z2',hf'⟩:=EY x hq ht j k z2 hf;exact h.one i j k z' z2' hi hj he' hf'
theorem Ui {S:bD Th} {q id:Nat} {y:Th} (x:Th) (hq:q<S.length) (ht:bJ S q=some (id,y)) (hk:((bG S).map (·.1)).Nodup):bG (S.set q (some (id,x)))=Ap id x (bG S):=by
 rw[vW S q hq,yR S q hq,ht];rw[yR S q hq,ht]at hk;simp only[Option.toList_some,List.map_append,List.map_cons,List.map_nil,List.append_assoc,List.singleton_append]at hk ⊢;rw[List.nodup_append]at hk;obtain⟨_,h2,h3⟩:=hk;rw[List.nodup_cons]at h2;have hsame:∀L:List (Nat×Th),(∀e∈L,e.1≠id)→L.map (fun e=>if e.1=id then(id,x)else e)=L:=fun L hL=>by
  rw[List.map_congr_left (g:=fun e=>e) (fun e he=>if_neg (hL e he))];exact List.map_id' L
 unfold Ap;rw[List.map_append,List.map_cons,if_pos rfl,hsame _ (fun e he hc=>h3 e.1 (List.mem_map_of_mem he) id (by simp) hc),hsame _ (fun e he hc=>h2.1 (by rw[←hc];exact List.mem_map_of_mem he))]
theorem PD {α:Type} (en:α→List Value) (sz:Nat) (hl:∀a,(en a).length=sz) (l:List α) (i:Nat) (c a:α) (o:Nat) (vs:List Value) (hi:l[i]? =some c) (ho:o+vs.length≤sz) (ha:en a=gG (en c) o vs):gG (l.flatMap en) (i*sz+o) vs=(l.set i a).flatMap en:=by
 have hil:i<l.length:=(List.getElem?_eq_some_iff.1 hi).1;have hlen:=dQ en sz hl l;have hjs:i*sz+sz≤l.length*sz:=by rw[←Nat.succ_mul];exact Nat.mul_le_mul_right _ hil
 rw[jJ en sz hl l i a hil];apply List.ext_getElem?
 intro k;rw[lg _ _ _ _ (by rw[hlen];omega),lg _ _ _ _ (by rw[hlen,hl];exact hjs),hl];by_cases h1:i*sz≤k∧k<i*sz+sz
 ·rw[if_pos h1,ha,lg _ _ _ _ (by rw[hl];exact ho)];obtain⟨m,rfl⟩:∃m,k=i*sz+m:=⟨k-i*sz,by omega⟩
  rw[Nat.add_sub_cancel_left];by_cases h2:o≤m∧m<o+vs.length
  ·rw[if_pos (by omega),if_pos h2];congr 1;omega
  ·rw[if_neg (by omega),if_neg h2,flat_get en sz hl l i m (by omega),hi];rfl
 ·rw[if_neg h1,if_neg (by omega)]
set_option maxRecDepth 100000 in
theorem Uj (w:World) (tb sb:Nat) (S:bD Th) (n room:Nat) (h:iT w tb sb S n room) (ok:vk S n room) (id:Nat) (hid:id<4294967296) (d:Nat) (f:nU (aV S.length) S id d) (y:Th) (ht:bJ S (ad S.length (aV S.length id) d)=some (id,y)) (x:Th):
 Calls Tryz.prog 211 #[.pointer (some ⟨tb,0,none⟩),.int .u32 id,en x] w fun e w'=>e=.returned (.bool true)∧∃S',iT w' tb sb S' n room∧vk S' n room∧bG S'=Ap id x (bG S)∧Kp (fun b=>b=tb∨b=sb) w w':=by
 have c:=h.top.cell 0 rfl;have hN:=ok.pw.pos;have hpl:=jX (fA S.length id hN) f.lt;have GM:=ae (fun W (k:Kp none' w W)=>aT (Jr W tb sb S n room (h.old k) hN));have GF:=ae (fun W (k:Kp none' w W)=>ql S id d ok.pw ok.b2 hid ok.free f W tb sb n room (h.old k));have hce:=fun k u h1 h2=>h.cell (ad S.length (aV S.length id) d) k (u:=u) h1 h2 hpl
 generalize ad S.length (aV S.length id) d=q at*;have yu:(q:Int)<S.length:=by omega
 have hst3:tb≠sb:=fun q=>iV h.top h.Ak (by decide) q
 have Jt:=Ui x hpl ht (Pz ok.inv);have hyS:S[q]? =some (some (id,y)):=by
  unfold bJ at ht;rw[List.getD_eq_getElem?_getD,List.getElem?_eq_getElem hpl]at ht;rw[List.getElem?_eq_getElem hpl];simpa using ht
 have hfl:gG (S.flatMap fJ) (q*5+2) (enx x)=(S.set q (some (id,x))).flatMap fJ:=by
  exact PD fJ 5 dZ S q (some (id,y)) (some (id,x)) 2 (enx x) hyS (by show 2+3≤5;omega) rfl
 have hok:vk (S.set q (some (id,x))) n room:=by
  have hl:(S.set q (some (id,x))).length=S.length:=List.length_set;refine⟨by rw[hl];exact ok.pw,by rw[hl];exact XG ok.inv x hpl ht,?_,by rw[hl];exact ok.load,ok.nr,ok.r1,ok.r2,?_,by rw[hl];exact ok.b1,by rw[hl];exact ok.b2⟩
  ·rw[Jt];unfold Ap;rw[List.length_map];exact ok.cnt
  ·rw[Jt];unfold Ap;intro e he;obtain⟨e',he',rfl⟩:=List.mem_map.1 he;split
   ·exact hid
   ·exact ok.ids _ he'
 have HM:=ae h;have oI:=ae hok;have HEN:=ae Jt;have PE:=ae hfl;clear h f hok Jt hfl hyS;rw[ht]at hce;have c1:=hce 1 (.bool true) (by omega) rfl;clear hce ht
 go_enter Tryz.func211,Tryz.ntmps211
 go_wp2_with fail
 have d_:=ae (ag.new w [.int .i64 x.p,.int .u64 x.b,.int .u64 x.m] 305);have ax:=ae ((Kp.refl none' w).alloc (.cells #[.int .i64 x.p,.int .u64 x.b,.int .u64 x.m] 305));change Code.wp _ _ _ _ (w.alloc (.cells #[.int .i64 x.p,.int .u64 x.b,.int .u64 x.m] 305))
 generalize w.alloc (.cells #[.int .i64 x.p,.int .u64 x.b,.int .u64 x.m] 305)=W1 at*;have d0:=ax.out.cell c (fun x=>x);have d1:=ax.out.cell c1 (fun x=>x);have Xw:=ae (fun W (k:Kp none' W1 W)=>GM.out W (ax.out.trans k));have EU:=ae (fun W (k:Kp none' W1 W)=>GF.out W (ax.out.trans k));refine af [] [0,1,2,3,4,5,6,7,8,9,10,11,12,13,14] 15 (by kernel_rfl) (by kernel_rfl) (fun c a d u w h=>by cases d<;>exact h) ?_;simp only[pick,bn];show aA _ _ _ _ _ _
 repeat((first
  |refine ah (by exact rfl) (by as_aux_lemma=>intro W hK;have e0:=hK.cell d0 (fun x=>x);have e1:=hK.cell d1 (fun x=>x);go_simp;exact rfl) ?_
  |refine ai (by exact rfl) ?_
  |refine au (by exact rfl) (by as_aux_lemma=>intro W;go_simp;exact⟨rfl,rfl⟩) (by intro W hK;with_reducible first|exact Xw.out W hK|exact EU.out W hK) ?_);simp only[Act.put,aY])
 show ∀W,_→wpList _ _ _ _ _ _
 intro W2 hK2;have ak:=ae (ax.out.trans hK2);have Uk:=ae (d_.out.kp hK2 (fun x=>x));have d2:=hK2.cell d0 (fun x=>x);have MI:=ae (fun W (k:Kp none' W2 W)=>EU.out W (hK2.trans k));have x0:=Uk.out.cell 0 rfl;have x1:=Uk.out.cell 1 rfl;have x2:=Uk.out.cell 2 rfl;clear hK2 d0 d1 d_ c c1
 go_wp2_with fail
 refine af [] [0,1,2,3,4,5,6,7,8,9] 10 (by kernel_rfl) (by kernel_rfl) (fun c a d u w h=>by cases d<;>exact h) ?_;simp only[pick,bn];show aA _ _ _ _ _ _
 repeat((first
  |refine ah (by exact rfl) (by as_aux_lemma=>intro W hK;have e0:=hK.cell d2 (fun x=>x);have e1:=hK.cell x0 (fun x=>x);have e2:=hK.cell x1 (fun x=>x);have e3:=hK.cell x2 (fun x=>x);go_simp;exact rfl) ?_
  |refine ai (by exact rfl) ?_
  |refine au (by exact rfl) (by as_aux_lemma=>intro W;go_simp;exact⟨rfl,rfl⟩) (by intro W hK;with_reducible first|exact MI.out W hK) ?_);simp only[Act.put,aY])
 show ∀W,_→wpList _ _ _ _ _ _
 intro W3 hK3;have aF:=ae (ak.out.trans hK3);have fV:=ae (HM.out.old aF.out);clear hK3 d2 x0 x1 x2;refine qK rfl 305 (.tmp 32) (.tmp 30) rfl fV.out.Ak (q*5+2) (enx x) rfl rfl ET (by rw[dQ fJ 5 dZ];show q*5+2+3≤_;omega) (by intro v hv;simp only[enx,List.mem_cons,List.not_mem_nil,or_false]at hv;rcases hv with rfl|rfl|rfl<;>rfl) ?_;intro W4 hB4 hO4 hK4;rw[PE.out]at hB4;have HT4:=ae (hO4 _ _ _ fV.out.top hst3);have HB4:=ae hB4;have aH:=ae (hK4 (fun b=>b=tb∨b=sb) w (aF.out.mono fun _ _ x=>x.elim) (.inl (.inr rfl)));clear hB4 hO4 hK4;simp only[Act.put]
 go_wp2_with fail
 go_ret
 exact⟨rfl,S.set q (some (id,x)),⟨by rw[List.length_set];exact HT4.out,HB4.out⟩,oI.out,HEN.out,aH.out⟩
theorem abC {w:World} {F:Nat→Prop} {tb room:Nat} {E:List (Nat×Th)} (h:Tf w F tb room E) (id:Nat) (hid:id<4294967296) (x y:Th) (hy:(id,y)∈E):
 Calls Tryz.prog 211 #[.pointer (some ⟨tb,0,none⟩),.int .u32 id,en x] w fun e w'=>e=.returned (.bool true)∧Tf w' F tb room (Ap id x E)∧Kp F w w':=by
 obtain⟨sb,S,n,rfl,hm,ok,hp⟩:=h;obtain⟨d,f⟩:=nU.there (hm:=aV S.length) (fun id=>fA _ _ ok.pw.pos) id ok.free;refine(Uj w tb sb S n room hm ok id hid d f y ((f.vX ok.inv y).2 (hp.mem_iff.2 hy)) x).mono ?_;rintro e w' ⟨he,S',hm',ok',hp',hk⟩;exact⟨he,⟨sb,S',n,rfl,hm',ok',by rw[hp'];exact hp.map _⟩,hk⟩
end Go.Proofs.YtjiehhlghjnfhaaGreatDoor.eQ
namespace Go.Proofs.YtjiehhlghjnfhaaGreatDoor
open Go Go.RowKit Go.Shelf
theorem QU:(Tryz.prog.info? 303).map (·.size)=some 2:=by kernel_rfl
set_option maxRecDepth 100000 in
theorem XH (p:Int) (b n:Nat) (hp:0≤p∧p≤1000000) (hb:b+n<18446744073709551616) (w:World):Calls Tryz.prog 237 #[.agg #[.int .i64 p,.int .u64 b],.int .u64 n] w fun e w'=>e=.returned (.agg #[.int .i64 (p+1),.int .u64 ((b:Int)+n)])∧Kp none' w w':=by
 have hw:IntKind.u64.wrap ((b:Int)+n)=(b:Int)+n:=by rw[IntKind.wrap_u64];omega
 go_enter Tryz.func237,Tryz.ntmps237
 go_wp2
 have hb1:=ag.new (w.alloc (.cells #[.int .i64 p,.int .u64 b] 303)) [.int .i64 (p+1),.int .u64 ((b:Int)+n)] 303;rw[World.size_alloc]at hb1;exact Dz (by exact rfl) hb1 _ Tryz.underlying303 rfl QU (by exact rfl) ⟨rfl,((Kp.refl none' w).alloc _).alloc _⟩
set_option maxRecDepth 100000 in
theorem XI (p:Int) (b n:Nat) (hp:1≤p∧p≤1000000) (hb:n≤b) (hb2:b<18446744073709551616) (w:World):Calls Tryz.prog 210 #[.agg #[.int .i64 p,.int .u64 b],.int .u64 n] w fun e w'=>e=.returned (.agg #[.int .i64 (p-1),.int .u64 ((b:Int)-n)])∧Kp none' w w':=by
 have hw:IntKind.u64.wrap ((b:Int)-n)=(b:Int)-n:=by rw[IntKind.wrap_u64];omega
 go_enter Tryz.func210,Tryz.ntmps210
 go_wp2
 have hb1:=ag.new (w.alloc (.cells #[.int .i64 p,.int .u64 b] 303)) [.int .i64 (p-1),.int .u64 ((b:Int)-n)] 303;rw[World.size_alloc]at hb1;exact Dz (by exact rfl) hb1 _ Tryz.underlying303 rfl QU (by exact rfl) ⟨rfl,((Kp.refl none' w).alloc _).alloc _⟩
theorem Ul (s:Nat):CZ 0 s=0:=by simp[CZ]
theorem MM (a:Nat) (h:a<18446744073709551616):CZ a 0=a:=by simp[CZ,h]
theorem XJ {a s:Nat} (L:Nat) (h1:a<2^L) (h2:L+s≤64):CZ a s=a*2^s:=by
 unfold CZ;rw[if_pos];have h3:a*2^s<2^L*2^s:=Nat.mul_lt_mul_of_pos_right h1 (Nat.pos_of_ne_zero (by simp));rw[←Nat.pow_add]at h3;have h4:2^(L+s)≤2^64:=Nat.pow_le_pow_right (by decide) h2;have h5:(2:Nat)^64=18446744073709551616:=by decide
 omega
theorem Um {a s:Nat} (L:Nat) (h0:0<L) (h1:2^(L-1)≤a) (h2:64<L+s):CZ a s=18446744073709551615:=by
 unfold CZ;rw[if_neg];have h3:2^(L-1)*2^s≤a*2^s:=Nat.mul_le_mul_right _ h1;rw[←Nat.pow_add]at h3;have h4:(2:Nat)^64≤2^(L-1+s):=Nat.pow_le_pow_right (by decide) (by omega);have h5:(2:Nat)^64=18446744073709551616:=by decide
 omega
theorem XK (f:Nat):Lib.bitLenAux f 0=0:=by cases f<;>simp[Lib.bitLenAux]
theorem MN:∀(f x:Nat),x<2^f→0<x→0<Lib.bitLenAux f x∧Lib.bitLenAux f x≤f∧2^(Lib.bitLenAux f x-1)≤x∧x<2^Lib.bitLenAux f x
 |0,x,h,h0=>by simp at h;omega
 |f+1,x,h,h0=>by
  have e:Lib.bitLenAux (f+1) x=1+Lib.bitLenAux f (x/2):=by
   show(if x=0 then 0 else 1+Lib.bitLenAux f (x/2))=_;rw[if_neg (by omega)]
  rw[e];rw[Nat.pow_succ]at h;by_cases h1:x/2=0
  ·rw[h1,XK];refine⟨by omega,by omega,?_,?_⟩
   ·show 2^(1+0-1)≤x;simp;omega
   ·show x<2^(1+0);simp;omega
  ·obtain⟨a1,a2,a3,a4⟩:=MN f (x/2) (by omega) (by omega);generalize Lib.bitLenAux f (x/2)=L at*;obtain⟨K,rfl⟩:∃K,L=K+1:=⟨L-1,by omega⟩
   have p1:2^(K+1)=2^K*2:=Nat.pow_succ ..;have p2:2^(1+(K+1))=2^K*2*2:=by rw[show 1+(K+1)=K+1+1 by omega,Nat.pow_succ,Nat.pow_succ]
   rw[Nat.add_sub_cancel]at a3;refine⟨by omega,by omega,?_,?_⟩
   ·rw[show 1+(K+1)-1=K+1 by omega];omega
   ·omega
set_option maxRecDepth 100000 in
theorem aaj (a s:Nat) (ha:a<18446744073709551616) (hs:s≤16) (w:World):Calls Tryz.prog 236 #[.int .u64 a,.int .i64 s] w fun e w'=>e=.returned (.int .u64 (CZ a s))∧w=w':=by
 by_cases h0:a=0
 ·subst h0;rw[Ul]
  go_enter Tryz.func236,Tryz.ntmps236
  go_wp2
  go_ret
  exact⟨rfl,rfl⟩
 ·have h0':((a:Int)==0)=false:=by rw[beq_eq_false_iff_ne];omega
  by_cases h1:s=0
  ·subst h1;rw[MM a ha]
   go_enter Tryz.func236,Tryz.ntmps236
   go_wp2
   go_ret
   exact⟨rfl,rfl⟩
  ·have h1':¬(s:Int)≤0:=by omega
   have h2':¬(64:Int)≤s:=by omega
   obtain⟨b1,b2,b3,b4⟩:=MN 64 a (by have:(2:Nat)^64=18446744073709551616:=(by decide);omega) (by omega);have hb:=Tryz.bits_Len64 (a:Int) w (by omega) (by omega);rw[Int.toNat_natCast]at hb;unfold Lib.bitLen at hb;obtain⟨L,hL⟩:∃L,Lib.bitLenAux 64 a=L:=⟨_,rfl⟩
   rw[hL]at b1 b2 b3 b4 hb;have HB:=ae hb;by_cases h3:L+s≤64
   ·have h3':¬(64:Int)<(L:Int)+s:=by omega
    have HS:=ae (XJ L b4 h3);have HP:Hid (IntKind.u64.wrap ((a:Int)*2^s)=((a*2^s:Nat):Int)):=by
     show _=_;have h4:a*2^s<2^L*2^s:=Nat.mul_lt_mul_of_pos_right b4 (Nat.pos_of_ne_zero (by simp));rw[←Nat.pow_add]at h4;have h5:2^(L+s)≤2^64:=Nat.pow_le_pow_right (by decide) h3;have h6:(2:Nat)^64=18446744073709551616:=by decide
     have h7:((a*2^s:Nat):Int)=(a:Int)*2^s:=by simp
     rw[←h7,IntKind.wrap_u64];omega
    clear hb b3 b4 hL
    go_enter Tryz.func236,Tryz.ntmps236
    go_wp2_with(go_at_call 234;refine HB.out.mono ?_;rintro e w' ⟨rfl,rfl⟩)
    go_ret
    exact⟨by rw[HS.out,←HP.out];rfl,rfl⟩
   ·have h3':(64:Int)<(L:Int)+s:=by omega
    have HS:=ae (Um (s:=s) L b1 b3 (by omega));clear hb b3 b4 hL
    go_enter Tryz.func236,Tryz.ntmps236
    go_wp2_with(go_at_call 234;refine HB.out.mono ?_;rintro e w' ⟨rfl,rfl⟩)
    go_ret
    exact⟨by rw[HS.out];rfl,rfl⟩
def qm (fQ n:Nat) (is:Bool) (P tp:Int) (By jG b m:Nat):Int:=
 if n=0∨fQ<n then 12 else if is=false then 13 else if P≤tp then 14 else if By-jG<n then 15 else if m-b<n then 16 else 0
set_option maxRecDepth 100000 in
theorem aak {w:World} {gb tb:Nat} (P tp:Int) (By jG fQ id n:Nat) (p:Int) (b m:Nat) (is:Bool) (c4:w.cell? ⟨gb,4,none⟩=some (.int .i64 P)) (c5:w.cell? ⟨gb,5,none⟩=some (.int .u64 By)) (c7:w.cell? ⟨gb,7,none⟩=some (.int .u64 fQ)) (c11:w.cell? ⟨gb,11,none⟩=some (.int .i64 tp)) (c12:w.cell? ⟨gb,12,none⟩=some (.int .u64 jG)) (c13:w.cell? ⟨gb,13,none⟩=some (.pointer (some ⟨tb,0,none⟩)))
 (HG:∀W,Kp none' w W→Calls Tryz.prog 209 #[.pointer (some ⟨tb,0,none⟩),.int .u32 id] W fun e w'=>e=.returned (.tuple #[.agg #[.int .i64 p,.int .u64 b,.int .u64 m],.bool is])∧Kp none' W w') (hle:jG≤By) (hby:By<18446744073709551616) (hbm:b≤m) (hm:m<18446744073709551616):
 Calls Tryz.prog 235 #[.pointer (some ⟨gb,0,none⟩),.int .u32 id,.int .u64 n] w fun e w'=>e=.returned (.int .i64 (qm fQ n is P tp By jG b m))∧Kp none' w w':=by
 by_cases h1:n=0
 ·subst h1;have HR:Hid (qm fQ 0 is P tp By jG b m=12):=by show _=_;unfold qm;rw[if_pos (.inl rfl)]
  clear HG
  go_enter Tryz.func235,Tryz.ntmps235
  go_wp2
  go_ret
  exact⟨by rw[HR.out];rfl,Kp.refl _ _⟩
 have h1':((n:Int)==0)=false:=by rw[beq_eq_false_iff_ne];omega
 by_cases h2:fQ<n
 ·have h2':(fQ:Int)<n:=by omega
  have HR:Hid (qm fQ n is P tp By jG b m=12):=by show _=_;unfold qm;rw[if_pos (.inr h2)]
  clear HG
  go_enter Tryz.func235,Tryz.ntmps235
  go_wp2
  go_ret
  exact⟨by rw[HR.out];rfl,Kp.refl _ _⟩
 have h2':¬(fQ:Int)<n:=by omega
 cases is with
 |false=>
  have HR:Hid (qm fQ n false P tp By jG b m=13):=by show _=_;unfold qm;rw[if_neg (by omega),if_pos rfl]
  clear h1 h2
  go_enter Tryz.func235,Tryz.ntmps235
  go_wp2_with fail
  refine(HG w (Kp.refl _ _)).mono ?_;rintro e w2 ⟨rfl,hk2⟩;have ak:=ae hk2;have d4:=hk2.cell c4 (fun x=>x);have d5:=hk2.cell c5 (fun x=>x);have d11:=hk2.cell c11 (fun x=>x);have d12:=hk2.cell c12 (fun x=>x);clear hk2 c4 c5 c7 c11 c12 c13 HG
  go_wp2_with fail
  go_ret
  exact⟨by rw[HR.out];rfl,ak.out.alloc _⟩
 |true=>
  have hR0:qm fQ n true P tp By jG b m=if P≤tp then 14 else if By-jG<n then 15 else if m-b<n then 16 else 0:=by unfold qm;rw[if_neg (by omega),if_neg (by simp)]
  clear h1 h2;by_cases h3:P≤tp
  ·have HR:Hid (qm fQ n true P tp By jG b m=14):=by show _=_;rw[hR0,if_pos h3]
   clear hR0
   go_enter Tryz.func235,Tryz.ntmps235
   go_wp2_with fail
   refine(HG w (Kp.refl _ _)).mono ?_;rintro e w2 ⟨rfl,hk2⟩;have ak:=ae hk2;have d4:=hk2.cell c4 (fun x=>x);have d5:=hk2.cell c5 (fun x=>x);have d11:=hk2.cell c11 (fun x=>x);have d12:=hk2.cell c12 (fun x=>x);clear hk2 c4 c5 c7 c11 c12 c13 HG
   go_wp2_with fail
   have HB3:=ae (ag.new w2 [.int .i64 p,.int .u64 b,.int .u64 m] 305);have hk3:=(Kp.refl none' w2).alloc (.cells #[.int .i64 p,.int .u64 b,.int .u64 m] 305);have aF:=ae (ak.out.trans hk3);have f4:=hk3.cell d4 (fun x=>x);have f5:=hk3.cell d5 (fun x=>x);have f11:=hk3.cell d11 (fun x=>x);have f12:=hk3.cell d12 (fun x=>x);obtain⟨y,hy⟩:∃y,w2.heap.size=y:=⟨_,rfl⟩
   rw[hy]at HB3 ⊢;change Code.wp _ _ _ _ (w2.alloc (.cells #[.int .i64 p,.int .u64 b,.int .u64 m] 305))
   generalize w2.alloc (.cells #[.int .i64 p,.int .u64 b,.int .u64 m] 305)=W3 at*;clear hk3 d4 d5 d11 d12 hy;refine af [] [0,1,2,3,4,5,6,7,8,9,10] 11 (by kernel_rfl) (by kernel_rfl) (fun c a d u w h=>by cases d<;>exact h) ?_;simp only[pick,bn];show aA _ _ _ _ _ _
   repeat((first
        |refine ah (by exact rfl) (by as_aux_lemma=>intro W hK;have e0:=hK.cell f4 (fun x=>x);have e1:=hK.cell f11 (fun x=>x);go_simp;exact rfl) ?_
        |refine ai (by exact rfl) ?_);simp only[Act.put,aY])
   show ∀W,_→wpList _ _ _ _ _ _
   intro W4 hK4;have aH:=ae (aF.out.trans hK4);have HB4:=ae (HB3.out.kp hK4 (fun x=>x));have g5:=hK4.cell f5 (fun x=>x);have g12:=hK4.cell f12 (fun x=>x);clear hK4 f4 f5 f11 f12
   go_wp2_with fail
   go_ret
   exact⟨by rw[HR.out];rfl,aH.out⟩
  rw[if_neg h3]at hR0;have h3':decide (P≤tp)=false:=by simpa using h3
  clear h3;obtain⟨R,hRe⟩:∃R,By-jG=R:=⟨_,rfl⟩
  have hRi:(By:Int)-jG=(R:Int):=by omega
  have HW:Hid (IntKind.u64.wrap (R:Int)=(R:Int)):=by show _=_;rw[IntKind.wrap_u64];omega
  rw[hRe]at hR0;by_cases h4:R<n
  ·have h4':(R:Int)<n:=by omega
   have HR:Hid (qm fQ n true P tp By jG b m=15):=by show _=_;rw[hR0,if_pos h4]
   clear hR0 hRe h4
   go_enter Tryz.func235,Tryz.ntmps235
   go_wp2_with fail
   refine(HG w (Kp.refl _ _)).mono ?_;rintro e w2 ⟨rfl,hk2⟩;have ak:=ae hk2;have d4:=hk2.cell c4 (fun x=>x);have d5:=hk2.cell c5 (fun x=>x);have d11:=hk2.cell c11 (fun x=>x);have d12:=hk2.cell c12 (fun x=>x);clear hk2 c4 c5 c7 c11 c12 c13 HG
   go_wp2_with fail
   have HB3:=ae (ag.new w2 [.int .i64 p,.int .u64 b,.int .u64 m] 305);have hk3:=(Kp.refl none' w2).alloc (.cells #[.int .i64 p,.int .u64 b,.int .u64 m] 305);have aF:=ae (ak.out.trans hk3);have f4:=hk3.cell d4 (fun x=>x);have f5:=hk3.cell d5 (fun x=>x);have f11:=hk3.cell d11 (fun x=>x);have f12:=hk3.cell d12 (fun x=>x);obtain⟨y,hy⟩:∃y,w2.heap.size=y:=⟨_,rfl⟩
   rw[hy]at HB3 ⊢;change Code.wp _ _ _ _ (w2.alloc (.cells #[.int .i64 p,.int .u64 b,.int .u64 m] 305))
   generalize w2.alloc (.cells #[.int .i64 p,.int .u64 b,.int .u64 m] 305)=W3 at*;clear hk3 d4 d5 d11 d12 hy;refine af [] [0,1,2,3,4,5,6,7,8,9,10] 11 (by kernel_rfl) (by kernel_rfl) (fun c a d u w h=>by cases d<;>exact h) ?_;simp only[pick,bn];show aA _ _ _ _ _ _
   repeat((first
        |refine ah (by exact rfl) (by as_aux_lemma=>intro W hK;have e0:=hK.cell f4 (fun x=>x);have e1:=hK.cell f11 (fun x=>x);go_simp;exact rfl) ?_
        |refine ai (by exact rfl) ?_);simp only[Act.put,aY])
   show ∀W,_→wpList _ _ _ _ _ _
   intro W4 hK4;have aH:=ae (aF.out.trans hK4);have HB4:=ae (HB3.out.kp hK4 (fun x=>x));have g5:=hK4.cell f5 (fun x=>x);have g12:=hK4.cell f12 (fun x=>x);clear hK4 f4 f5 f11 f12
   go_wp2_with fail
   refine af [] [0,1,2,3,4,5,6,7,8,9,10,11,12] 13 (by kernel_rfl) (by kernel_rfl) (fun c a d u w h=>by cases d<;>exact h) ?_;simp only[pick,bn];show aA _ _ _ _ _ _
   repeat((first
        |refine ah (by exact rfl) (by as_aux_lemma=>intro W hK;have e0:=hK.cell g5 (fun x=>x);have e1:=hK.cell g12 (fun x=>x);have e2:=HW.out;go_simp;exact rfl) ?_
        |refine ai (by exact rfl) ?_);simp only[Act.put,aY])
   show ∀W,_→wpList _ _ _ _ _ _
   intro W5 hK5;have a_:=ae (aH.out.trans hK5);have d_:=ae (HB4.out.kp hK5 (fun x=>x));clear hK5 g5 g12;have y0:=d_.out.cell 0 rfl;have y1:=d_.out.cell 1 rfl;have y2:=d_.out.cell 2 rfl
   go_wp2_with fail
   go_ret
   exact⟨by rw[HR.out];rfl,a_.out⟩
  have h4':¬(R:Int)<n:=by omega
  rw[if_neg h4]at hR0;have h6:¬(m:Int)<b:=by omega
  obtain⟨Q,Wq⟩:∃Q,m-b=Q:=⟨_,rfl⟩
  have hQi:(m:Int)-b=(Q:Int):=by omega
  have hw2:IntKind.u64.wrap (Q:Int)=(Q:Int):=by rw[IntKind.wrap_u64];omega
  have h6':¬(m<b):=by omega
  rw[Wq]at hR0;by_cases h5:Q<n
  ·have h5':(Q:Int)<n:=by omega
   have HR:Hid (qm fQ n true P tp By jG b m=16):=by show _=_;rw[hR0,if_pos h5]
   clear hR0 hRe h4 h5 Wq
   go_enter Tryz.func235,Tryz.ntmps235
   go_wp2_with fail
   refine(HG w (Kp.refl _ _)).mono ?_;rintro e w2 ⟨rfl,hk2⟩;have ak:=ae hk2;have d4:=hk2.cell c4 (fun x=>x);have d5:=hk2.cell c5 (fun x=>x);have d11:=hk2.cell c11 (fun x=>x);have d12:=hk2.cell c12 (fun x=>x);clear hk2 c4 c5 c7 c11 c12 c13 HG
   go_wp2_with fail
   have HB3:=ae (ag.new w2 [.int .i64 p,.int .u64 b,.int .u64 m] 305);have hk3:=(Kp.refl none' w2).alloc (.cells #[.int .i64 p,.int .u64 b,.int .u64 m] 305);have aF:=ae (ak.out.trans hk3);have f4:=hk3.cell d4 (fun x=>x);have f5:=hk3.cell d5 (fun x=>x);have f11:=hk3.cell d11 (fun x=>x);have f12:=hk3.cell d12 (fun x=>x);obtain⟨y,hy⟩:∃y,w2.heap.size=y:=⟨_,rfl⟩
   rw[hy]at HB3 ⊢;change Code.wp _ _ _ _ (w2.alloc (.cells #[.int .i64 p,.int .u64 b,.int .u64 m] 305))
   generalize w2.alloc (.cells #[.int .i64 p,.int .u64 b,.int .u64 m] 305)=W3 at*;clear hk3 d4 d5 d11 d12 hy;refine af [] [0,1,2,3,4,5,6,7,8,9,10] 11 (by kernel_rfl) (by kernel_rfl) (fun c a d u w h=>by cases d<;>exact h) ?_;simp only[pick,bn];show aA _ _ _ _ _ _
   repeat((first
        |refine ah (by exact rfl) (by as_aux_lemma=>intro W hK;have e0:=hK.cell f4 (fun x=>x);have e1:=hK.cell f11 (fun x=>x);go_simp;exact rfl) ?_
        |refine ai (by exact rfl) ?_);simp only[Act.put,aY])
   show ∀W,_→wpList _ _ _ _ _ _
   intro W4 hK4;have aH:=ae (aF.out.trans hK4);have HB4:=ae (HB3.out.kp hK4 (fun x=>x));have g5:=hK4.cell f5 (fun x=>x);have g12:=hK4.cell f12 (fun x=>x);clear hK4 f4 f5 f11 f12
   go_wp2_with fail
   refine af [] [0,1,2,3,4,5,6,7,8,9,10,11,12] 13 (by kernel_rfl) (by kernel_rfl) (fun c a d u w h=>by cases d<;>exact h) ?_;simp only[pick,bn];show aA _ _ _ _ _ _
   repeat((first
        |refine ah (by exact rfl) (by as_aux_lemma=>intro W hK;have e0:=hK.cell g5 (fun x=>x);have e1:=hK.cell g12 (fun x=>x);have e2:=HW.out;go_simp;exact rfl) ?_
        |refine ai (by exact rfl) ?_);simp only[Act.put,aY])
   show ∀W,_→wpList _ _ _ _ _ _
   intro W5 hK5;have a_:=ae (aH.out.trans hK5);have d_:=ae (HB4.out.kp hK5 (fun x=>x));clear hK5 g5 g12;have y0:=d_.out.cell 0 rfl;have y1:=d_.out.cell 1 rfl;have y2:=d_.out.cell 2 rfl
   go_wp2_with fail
   go_ret
   exact⟨by rw[HR.out];rfl,a_.out⟩
  ·have h5':¬(Q:Int)<n:=by omega
   have HR:Hid (qm fQ n true P tp By jG b m=0):=by show _=_;rw[hR0,if_neg h5]
   clear hR0 hRe h4 h5 Wq
   go_enter Tryz.func235,Tryz.ntmps235
   go_wp2_with fail
   refine(HG w (Kp.refl _ _)).mono ?_;rintro e w2 ⟨rfl,hk2⟩;have ak:=ae hk2;have d4:=hk2.cell c4 (fun x=>x);have d5:=hk2.cell c5 (fun x=>x);have d11:=hk2.cell c11 (fun x=>x);have d12:=hk2.cell c12 (fun x=>x);clear hk2 c4 c5 c7 c11 c12 c13 HG
   go_wp2_with fail
   have HB3:=ae (ag.new w2 [.int .i64 p,.int .u64 b,.int .u64 m] 305);have hk3:=(Kp.refl none' w2).alloc (.cells #[.int .i64 p,.int .u64 b,.int .u64 m] 305);have aF:=ae (ak.out.trans hk3);have f4:=hk3.cell d4 (fun x=>x);have f5:=hk3.cell d5 (fun x=>x);have f11:=hk3.cell d11 (fun x=>x);have f12:=hk3.cell d12 (fun x=>x);obtain⟨y,hy⟩:∃y,w2.heap.size=y:=⟨_,rfl⟩
   rw[hy]at HB3 ⊢;change Code.wp _ _ _ _ (w2.alloc (.cells #[.int .i64 p,.int .u64 b,.int .u64 m] 305))
   generalize w2.alloc (.cells #[.int .i64 p,.int .u64 b,.int .u64 m] 305)=W3 at*;clear hk3 d4 d5 d11 d12 hy;refine af [] [0,1,2,3,4,5,6,7,8,9,10] 11 (by kernel_rfl) (by kernel_rfl) (fun c a d u w h=>by cases d<;>exact h) ?_;simp only[pick,bn];show aA _ _ _ _ _ _
   repeat((first
        |refine ah (by exact rfl) (by as_aux_lemma=>intro W hK;have e0:=hK.cell f4 (fun x=>x);have e1:=hK.cell f11 (fun x=>x);go_simp;exact rfl) ?_
        |refine ai (by exact rfl) ?_);simp only[Act.put,aY])
   show ∀W,_→wpList _ _ _ _ _ _
   intro W4 hK4;have aH:=ae (aF.out.trans hK4);have HB4:=ae (HB3.out.kp hK4 (fun x=>x));have g5:=hK4.cell f5 (fun x=>x);have g12:=hK4.cell f12 (fun x=>x);clear hK4 f4 f5 f11 f12
   go_wp2_with fail
   refine af [] [0,1,2,3,4,5,6,7,8,9,10,11,12] 13 (by kernel_rfl) (by kernel_rfl) (fun c a d u w h=>by cases d<;>exact h) ?_;simp only[pick,bn];show aA _ _ _ _ _ _
   repeat((first
        |refine ah (by exact rfl) (by as_aux_lemma=>intro W hK;have e0:=hK.cell g5 (fun x=>x);have e1:=hK.cell g12 (fun x=>x);have e2:=HW.out;go_simp;exact rfl) ?_
        |refine ai (by exact rfl) ?_);simp only[Act.put,aY])
   show ∀W,_→wpList _ _ _ _ _ _
   intro W5 hK5;have a_:=ae (aH.out.trans hK5);have d_:=ae (HB4.out.kp hK5 (fun x=>x));clear hK5 g5 g12;have y0:=d_.out.cell 0 rfl;have y1:=d_.out.cell 1 rfl;have y2:=d_.out.cell 2 rfl
   go_wp2_with fail
   go_ret
   exact⟨by rw[HR.out];rfl,a_.out⟩
end Go.Proofs.YtjiehhlghjnfhaaGreatDoor
namespace Go.Proofs.YtjiehhlghjnfhaaGreatDoor
open Go Go.RowKit Go.Shelf
open eQ (Th Tf)
def gC (g:Ga) (tb:Nat):List Value:=[.int .i64 g.c.rank,.int .i64 g.c.back,.int .i64 g.c.levels,.int .i64 g.c.queues,.int .i64 g.c.aI,.int .u64 g.c.bytes,.int .i64 g.c.share,.int .u64 g.c.fQ,.int .u64 g.c.rate,.int .u64 g.c.aQ,.slice none 0 0,.int .i64 (sumP g.st),.int .u64 (fC g.st),.pointer (some ⟨tb,0,none⟩)]
def jc (w:World) (F:Nat→Prop) (gb:Nat) (g:Ga):Prop:=∃Ft tb,F=(fun b=>b=gb∨Ft b)∧ag w gb (gC g tb) 308∧Tf w Ft tb 64 (kz g.c.aS g.st)∧¬Ft gb∧g.Ok
theorem jc.kp {T:Nat→Prop} {w w':World} {F:Nat→Prop} {gb:Nat} {g:Ga} (h:jc w F gb g) (k:Kp T w w') (hT:∀b,F b→¬T b):jc w' F gb g:=by
 obtain⟨Ft,tb,rfl,hb,ht,hn,ok⟩:=h;exact⟨Ft,tb,rfl,hb.kp k (hT _ (.inl rfl)),ht.kp k (fun b h=>hT b (.inr h)),hn,ok⟩
theorem jc.old {w w':World} {F:Nat→Prop} {gb:Nat} {g:Ga} (h:jc w F gb g) (k:Kp none' w w'):jc w' F gb g:=h.kp k (fun _ _ x=>x)
theorem jc.lt {w:World} {F:Nat→Prop} {gb:Nat} {g:Ga} (h:jc w F gb g) {b:Nat} (hb:F b):b<w.heap.size:=by
 obtain⟨Ft,tb,rfl,hb',ht,hn,ok⟩:=h;rcases hb with rfl|hb
 ·exact hb'.lt
 ·exact ht.lt hb
theorem jc.ok {w:World} {F:Nat→Prop} {gb:Nat} {g:Ga} (h:jc w F gb g):g.Ok:=by
 obtain⟨_,_,_,_,_,_,ok⟩:=h;exact ok
theorem yT {w:World} {Ft:Nat→Prop} {tb:Nat} {g:Ga} (ht:Tf w Ft tb 64 (kz g.c.aS g.st)) (ok:g.Ok) (id:Nat) (hid:id<4294967296):
 ∃p b m,(0≤g.at id→p=(g.x id).p∧b=(g.x id).b∧m=(g.x id).m)∧b≤m∧m<18446744073709551616∧∀W,Kp none' w W→Calls Tryz.prog 209 #[.pointer (some ⟨tb,0,none⟩),.int .u32 id] W fun e w'=>e=.returned (.tuple #[.agg #[.int .i64 p,.int .u64 (b:Nat),.int .u64 (m:Nat)],.bool (decide (0≤g.at id))])∧Kp none' W w':=by
 have hg:=EX ok.len ok.nod.1 id;by_cases h0:0≤g.at id
 ·have h1:=hg.1 h0;have hm:=ok.own _ (ok.ou h0);have hcap:(g.x id).m<18446744073709551616:=by
   obtain⟨h2,h3⟩:=ok.yS h0;have hl:(g.at id).toNat<g.c.aS.length:=by rw[←ok.len];exact h2
   have:=ok.caps _ _ _ (List.getElem?_eq_getElem h2) (List.getElem?_eq_getElem hl);rw[h3,this];exact(ok.Ue.aS _ (List.getElem_mem hl)).cap
  refine⟨_,_,_,fun _=>⟨rfl,rfl,rfl⟩,hm.2,hcap,fun W k=> ?_⟩;rw[decide_eq_true h0];exact eQ.XD (ht.old k) id hid (g.x id) h1
 ·have h1:=hg.2 (by show g.at id<0;omega);refine⟨0,0,0,fun h=>absurd h h0,Nat.le_refl _,by omega,fun W k=> ?_⟩;rw[decide_eq_false h0];exact eQ.Ud (ht.old k) id hid h1
theorem acQ (g:Ga) (id n:Nat) (p:Int) (b m:Nat) (h:0≤g.at id→p=(g.x id).p∧b=(g.x id).b∧m=(g.x id).m):qm g.c.fQ n (decide (0≤g.at id)) g.c.aI (sumP g.st) g.c.bytes (fC g.st) b m=kC g id n:=by
 unfold qm kC;split
 ·rfl
 ·by_cases h0:0≤g.at id
  ·obtain⟨_,rfl,rfl⟩:=h h0;rw[decide_eq_true h0,if_neg (by simp),if_neg (show ¬g.at id<0 by omega)]
  ·rw[decide_eq_false h0,if_pos rfl,if_pos (show g.at id<0 by omega)]
theorem acR {w:World} {F:Nat→Prop} {gb:Nat} {g:Ga} (h:jc w F gb g) (id n:Nat) (hid:id<4294967296):
 Calls Tryz.prog 235 #[.pointer (some ⟨gb,0,none⟩),.int .u32 id,.int .u64 n] w fun e w'=>e=.returned (.int .i64 (kC g id n))∧Kp none' w w':=by
 obtain⟨Ft,tb,rfl,hb,ht,hn,ok⟩:=h;obtain⟨p,b,m,hx,hbm,hm,hG⟩:=yT ht ok id hid;rw[←acQ g id n p b m hx];exact aak _ _ _ _ _ id n p b m _ (hb.cell 4 rfl) (hb.cell 5 rfl) (hb.cell 7 rfl) (hb.cell 11 rfl) (hb.cell 12 rfl) (hb.cell 13 rfl) hG ok.Uf ok.Ue.bytes hbm hm
set_option maxRecDepth 100000 in
theorem aal {w:World} {F:Nat→Prop} {gb:Nat} {g:Ga} (h:jc w F gb g):
 Calls Tryz.prog 172 #[.pointer (some ⟨gb,0,none⟩)] w fun e w'=>e=.returned (.tuple #[.int .i64 (sumP g.st),.int .u64 (fC g.st)])∧Kp none' w w':=by
 obtain⟨Ft,tb,rfl,hb,ht,hn,ok⟩:=h;have c11:=hb.cell 11 rfl;have c12:=hb.cell 12 rfl;generalize sumP g.st=P at*;generalize fC g.st=S at*;clear hb ht hn ok
 go_enter Tryz.func172,Tryz.ntmps172
 go_wp2_with fail
 go_region
 all_goals
  go_wp2_with fail
  go_ret2
  exact⟨rfl,(Kp.refl none' w).drew⟩
set_option maxRecDepth 100000 in
theorem acS {w:World} {gb tb:Nat} (By jG id n s:Nat) (p:Int) (b m:Nat) (is:Bool) (ft:Int) (c5:w.cell? ⟨gb,5,none⟩=some (.int .u64 By)) (c6:w.cell? ⟨gb,6,none⟩=some (.int .i64 s)) (c12:w.cell? ⟨gb,12,none⟩=some (.int .u64 jG)) (c13:w.cell? ⟨gb,13,none⟩=some (.pointer (some ⟨tb,0,none⟩)))
 (HF:Calls Tryz.prog 235 #[.pointer (some ⟨gb,0,none⟩),.int .u32 id,.int .u64 n] w fun e w'=>e=.returned (.int .i64 ft)∧Kp none' w w')
 (HG:∀W,Kp none' w W→Calls Tryz.prog 209 #[.pointer (some ⟨tb,0,none⟩),.int .u32 id] W fun e w'=>e=.returned (.tuple #[.agg #[.int .i64 p,.int .u64 b,.int .u64 m],.bool is])∧Kp none' W w') (hle:jG≤By) (hby:By<18446744073709551616) (hs:s≤16):
 Calls Tryz.prog 204 #[.pointer (some ⟨gb,0,none⟩),.int .u32 id,.int .u64 n] w fun e w'=>e=.returned (.int .i64 (if ft≠0 then ft else if CZ (By-jG) s≤b then 17 else 0))∧Kp none' w w':=by
 have HF:=ae HF;by_cases h0:ft=0
 ·subst h0;obtain⟨R,hRe⟩:∃R,By-jG=R:=⟨_,rfl⟩
  have hRi:(By:Int)-jG=(R:Int):=by omega
  have HW:Hid (IntKind.u64.wrap (R:Int)=(R:Int)):=by show _=_;rw[IntKind.wrap_u64];omega
  have HS:=ae (fun W=>aaj R s (by omega) hs W);rw[hRe];obtain⟨T,hT⟩:∃T,CZ R s=T:=⟨_,rfl⟩
  rw[hT]at HS ⊢;obtain⟨r,hr⟩:∃r:Int,(if(0:Int)≠0 then(0:Int)else if T≤b then 17 else 0)=r:=⟨_,rfl⟩
  rw[hr];have hr:r=if T≤b then 17 else 0:=by rw[←hr,if_neg (by simp)]
  clear hRe hT;have HR:=ae hr;clear hr
  go_enter Tryz.func204,Tryz.ntmps204
  go_wp2_with fail
  refine HF.out.mono ?_;rintro e w1 ⟨rfl,hk1⟩;have ax:=ae hk1;have d5:=hk1.cell c5 (fun x=>x);have d6:=hk1.cell c6 (fun x=>x);have d12:=hk1.cell c12 (fun x=>x);have d13:=hk1.cell c13 (fun x=>x);have HG1:=ae (fun W (k:Kp none' w1 W)=>HG W (hk1.trans k));clear hk1 c5 c6 c12 c13 HG
  go_wp2_with fail
  refine(HG1.out _ (Kp.refl _ _)).mono ?_;rintro e w2 ⟨rfl,hk2⟩;have ak:=ae (ax.out.trans hk2);have e5:=hk2.cell d5 (fun x=>x);have e6:=hk2.cell d6 (fun x=>x);have e12:=hk2.cell d12 (fun x=>x);clear hk2 d5 d6 d12 d13
  go_wp2_with fail
  have HB3:=ae (ag.new w2 [.int .i64 p,.int .u64 b,.int .u64 m] 305);have hk3:=(Kp.refl none' w2).alloc (.cells #[.int .i64 p,.int .u64 b,.int .u64 m] 305);have aF:=ae (ak.out.trans hk3);have f5:=hk3.cell e5 (fun x=>x);have f6:=hk3.cell e6 (fun x=>x);have f12:=hk3.cell e12 (fun x=>x);obtain⟨y,hy⟩:∃y,w2.heap.size=y:=⟨_,rfl⟩
  rw[hy]at HB3 ⊢;change Code.wp _ _ _ _ (w2.alloc (.cells #[.int .i64 p,.int .u64 b,.int .u64 m] 305))
  generalize w2.alloc (.cells #[.int .i64 p,.int .u64 b,.int .u64 m] 305)=W3 at*;clear hk3 e5 e6 e12 hy;have x1:=HB3.out.cell 1 rfl;refine af [] [0,1,2,3,4,5,6,7,8,9,10,11,12,13,14,15,16,17,18,19] 20 (by kernel_rfl) (by kernel_rfl) (fun c a d u w h=>by cases d<;>exact h) ?_;simp only[pick,bn];show aA _ _ _ _ _ _
  repeat((first
   |refine ah (by exact rfl) (by as_aux_lemma=>intro W hK;have g0:=hK.cell f5 (fun x=>x);have g1:=hK.cell f6 (fun x=>x);have g2:=hK.cell f12 (fun x=>x);have g3:=hK.cell x1 (fun x=>x);have g4:=HW.out;go_simp;exact rfl) ?_
   |refine ai (by exact rfl) ?_
   |refine au (by exact rfl) (by as_aux_lemma=>intro W;go_simp;exact⟨rfl,rfl⟩) (by intro W hK;with_reducible first|exact(HS.out W).mono fun _ _ h=>⟨h.1,h.2▸Kp.refl _ _⟩) ?_);simp only[Act.put,aY])
  show ∀W,_→wpList _ _ _ _ _ _
  intro W4 hK4;have aH:=ae (aF.out.trans hK4);clear hK4 f5 f6 f12 x1;by_cases h2:T≤b
  ·have h2':(T:Int)≤b:=by omega
   have h2d:decide (T≤b)=true:=by simpa using h2
   have HRR:=ae (HR.out.trans (if_pos h2))
   go_wp2_with fail
   go_ret
   exact⟨by rw[HRR.out];rfl,aH.out⟩
  ·have h2':¬(T:Int)≤b:=by omega
   have h2d:decide (T≤b)=false:=by simpa using h2
   have HRR:=ae (HR.out.trans (if_neg h2))
   go_wp2_with fail
   go_ret
   exact⟨by rw[HRR.out];rfl,aH.out⟩
 ·rw[if_pos h0];have h0':(ft != 0)=true:=by simpa using h0
  clear c5 c6 c12 c13 HG
  go_enter Tryz.func204,Tryz.ntmps204
  go_wp2_with fail
  refine HF.out.mono ?_;rintro e w1 ⟨rfl,hk1⟩;have ax:=ae hk1;clear hk1
  go_wp2_with fail
  go_ret
  exact⟨rfl,ax.out⟩
theorem aee {w:World} {F:Nat→Prop} {gb:Nat} {g:Ga} (h:jc w F gb g) (id n:Nat) (hid:id<4294967296):
 Calls Tryz.prog 204 #[.pointer (some ⟨gb,0,none⟩),.int .u32 id,.int .u64 n] w fun e w'=>e=.returned (.int .i64 (dN g id n))∧Kp none' w w':=by
 have hF:=acR h id n hid;obtain⟨Ft,tb,rfl,hb,ht,hn,ok⟩:=h;obtain⟨p,b,m,hx,hbm,hm,hG⟩:=yT ht ok id hid;obtain⟨s,hs⟩:∃s:Nat,g.c.share=s:=⟨g.c.share.toNat,by have:=ok.EW;omega⟩
 have hsh:g.c.share.toNat=s:=by omega
 have abe:s≤16:=by have:=ok.EW;omega
 have c6:=hb.cell 6 rfl;rw[hs]at c6;refine(acS _ _ id n s p b m _ (kC g id n) (hb.cell 5 rfl) c6 (hb.cell 12 rfl) (hb.cell 13 rfl) hF hG ok.Uf ok.Ue.bytes abe).mono ?_;rintro e w' ⟨rfl,hk⟩;refine⟨?_,hk⟩;unfold dN;rw[hsh];by_cases h0:kC g id n=0
 ·have hat:0≤g.at id:=by
   by_cases ha:0≤g.at id
   ·exact ha
   ·exfalso
    unfold kC at h0;split at h0
    ·omega
    ·rw[if_pos (by omega)]at h0;omega
  rw[(hx hat).2.1]
 ·rw[if_pos h0,if_pos h0]
theorem MO {g:Ga} (ok:g.Ok) {id:Nat} (h0:0≤g.at id) (x:Th):eQ.Ap id x (kz g.c.aS g.st)=kz (g.put id x).c.aS (g.put id x).st:=XF ok.len ok.nod.1 id x h0
set_option maxRecDepth 100000 in
theorem aef {w:World} {Ft:Nat→Prop} {gb tb:Nat} {cs:List Value} {E:List (Nat×Th)} (tp:Int) (jG id n:Nat) (p:Int) (b m:Nat) (hid:id<4294967296) (hb:ag w gb cs 308) (h11:cs[11]? =some (.int .i64 tp)) (h12:cs[12]? =some (.int .u64 jG)) (h13:cs[13]? =some (.pointer (some ⟨tb,0,none⟩))) (ht:Tf w Ft tb 64 E) (hn:¬Ft gb) (hx:(id,(⟨p,b,m⟩:Th))∈E)
 (hp:0≤p∧p≤100000) (htp:0≤tp∧tp≤100000) (hbb:b+n<18446744073709551616) (htb:jG+n<18446744073709551616):
 Calls Tryz.prog 205 #[.pointer (some ⟨gb,0,none⟩),.int .u32 id,.int .u64 n] w fun e w'=>e=.returned (.tuple #[])∧ag w' gb ((cs.set 11 (.int .i64 (tp+1))).set 12 (.int .u64 ((jG:Int)+n))) 308∧Tf w' Ft tb 64 (eQ.Ap id ⟨p+1,b+n,m⟩ E)∧Kp (fun z=>z=gb∨Ft z) w w':=by
 have HG:=ae (fun W (k:Kp none' w W)=>eQ.XD (ht.old k) id hid ⟨p,b,m⟩ hx);have QV:=ae (fun W (k:Tf W Ft tb 64 E)=>eQ.abC k id hid ⟨p+1,b+n,m⟩ ⟨p,b,m⟩ hx);have HT:=ae ht;have HB:=ae hb;have HN:=ae hn;have XL:=ae h11;have XM:=ae h12;have XN:=ae h13;clear ht hb hn hx h11 h12 h13;have hw1:IntKind.u64.wrap ((b:Int)+n)=(b:Int)+n:=by rw[IntKind.wrap_u64];omega
 have c13:=HB.out.cell 13 XN.out
 go_enter Tryz.func205,Tryz.ntmps205
 go_wp2_with fail
 refine(HG.out w (Kp.refl _ _)).mono ?_;rintro e w1 ⟨rfl,hk1⟩;have HB1:=ae (HB.out.kp hk1 (fun x=>x));have HT1:=ae (HT.out.old hk1);have ax:=ae hk1;clear hk1 c13
 go_wp2_with fail
 refine(XH p b n (by omega) (by omega) _).mono ?_;rintro e w2 ⟨rfl,hk2⟩;have qA:=ae ((ag.new w1 [.int .i64 p,.int .u64 b,.int .u64 m] 305).kp hk2 (fun x=>x));have Aq:=((Kp.refl none' w1).alloc (.cells #[.int .i64 p,.int .u64 b,.int .u64 m] 305)).trans hk2;have HB2:=ae (HB1.out.kp Aq (fun x=>x));have HT2:=ae (HT1.out.old Aq);have ak:=ae (ax.out.trans Aq);have hyl:w1.heap.size<w2.heap.size:=qA.out.lt;have hy0:w.heap.size≤w1.heap.size:=ax.out.size;clear hk2 Aq;obtain⟨y,hy⟩:∃y,w1.heap.size=y:=⟨_,rfl⟩
 rw[hy]at qA hyl hy0 ⊢;have y0:=qA.out.cell 0 rfl;have y1:=qA.out.cell 1 rfl;have yf:=fun j=>qA.out.fz j
 clear hy
 go_wp2_with fail
 have XO:y≠gb:=fun e=>iV qA.out HB2.out (by decide) e
 have XP:¬Ft y:=fun e=>by have:=HT.out.lt e;omega
 have yH:=ae ((qA.out.set 0 (.int .i64 (p+1))).set 1 (.int .u64 ((b:Int)+n)));have hks:Kp (fun z=>z=y) w2 ((w2.setCell ⟨y,0,none⟩ (.int .i64 (p+1))).setCell ⟨y,1,none⟩ (.int .u64 ((b:Int)+n))):=((Kp.refl (fun z=>z=y) w2).set (p:=⟨y,0,none⟩) (.inl rfl) _).set (p:=⟨y,1,none⟩) (.inl rfl) _;have HB3:=ae (HB2.out.kp hks (fun e=>XO e.symm));have HT3:=ae (HT2.out.kp hks (fun z hz e=>XP (by rw[←e];exact hz)));have aF:Hid (Kp none' w _):=ae (ak.out.then hks (fun z hz e=>by omega));clear hks y0 y1 yf;generalize (w2.setCell ⟨y,0,none⟩ (.int .i64 (p+1))).setCell ⟨y,1,none⟩ (.int .u64 ((b:Int)+n))=W3 at*;have z0:=yH.out.cell 0 rfl;have z1:=yH.out.cell 1 rfl;have z2:=yH.out.cell 2 rfl;have b13:=HB3.out.cell 13 XN.out;refine af [] [0,1,2,3,4,5] 6 (by kernel_rfl) (by kernel_rfl) (fun c a d u w h=>by cases d<;>exact h) ?_;simp only[pick,bn];show aA _ _ _ _ _ _
 repeat((first
  |refine ah (by exact rfl) (by as_aux_lemma=>intro W hK;have e0:=hK.cell z0 (fun x=>x);have e1:=hK.cell z1 (fun x=>x);have e2:=hK.cell z2 (fun x=>x);have e3:=hK.cell b13 (fun x=>x);go_simp;exact rfl) ?_
  |refine ai (by exact rfl) ?_);simp only[Act.put,aY])
 show ∀W,_→wpList _ _ _ _ _ _
 intro W4 hK4;have HB4:=ae (HB3.out.kp hK4 (fun x=>x));have HT4:=ae (HT3.out.old hK4);have aH:=ae (aF.out.trans hK4);clear hK4 z0 z1 z2 b13
 go_wp2_with fail
 refine(QV.out W4 HT4.out).mono ?_;rintro e w5 ⟨rfl,MP,hk5⟩;have d_:=ae (HB4.out.kp hk5 HN.out);have oN:=ae MP;have a_:Hid (Kp Ft w w5):=ae ((aH.out.mono (fun _ _ x=>x.elim)).trans hk5);clear MP hk5;have b11:=d_.out.cell 11 XL.out;have b12:=d_.out.cell 12 XM.out
 go_wp2_with fail
 refine(XH tp jG n (by omega) (by omega) _).mono ?_;rintro e w6 ⟨rfl,hk6⟩;have bV:=ae (d_.out.kp hk6 (fun x=>x));have yJ:=ae (oN.out.old hk6);have b_:Hid (Kp Ft w w6):=ae (a_.out.trans (hk6.mono (fun _ _ x=>x.elim)));clear hk6 b11 b12;have b11:=bV.out.cell 11 XL.out;have b12:=bV.out.cell 12 XM.out;have bf:=fun j=>bV.out.fz j
 go_wp2_with fail
 go_end0
 have hks:Kp (fun z=>z=gb) w6 ((w6.setCell ⟨gb,11,none⟩ (.int .i64 (tp+1))).setCell ⟨gb,12,none⟩ (.int .u64 ((jG:Int)+n))):=((Kp.refl (fun z=>z=gb) w6).set (p:=⟨gb,11,none⟩) (.inl rfl) _).set (p:=⟨gb,12,none⟩) (.inl rfl) _;refine⟨rfl,(bV.out.set 11 _).set 12 _,(yJ.out.kp hks (fun z hz e=>HN.out (by rw[←e];exact hz))),?_⟩;exact(b_.out.mono (fun z _ hz=>.inr hz)).trans (hks.mono (fun z _ hz=>.inl hz))
theorem aeg {w:World} {F:Nat→Prop} {gb:Nat} {g:Ga} (h:jc w F gb g) (id n:Nat) (hid:id<4294967296) (h0:0≤g.at id) (hok:(g.lay id n).Ok):
 Calls Tryz.prog 205 #[.pointer (some ⟨gb,0,none⟩),.int .u32 id,.int .u64 n] w fun e w'=>e=.returned (.tuple #[])∧jc w' F gb (g.lay id n)∧Kp F w w':=by
 obtain⟨Ft,tb,rfl,hb,ht,hn,ok⟩:=h;have hmem:=(EX ok.len ok.nod.1 id).1 h0;have hst:=MO ok h0 ⟨(g.x id).p+1,(g.x id).b+n,(g.x id).m⟩;have hxb:=ok.own _ (ok.ou h0);have hpl:=Am (fun y hy=>(ok.own y hy).1) (ok.ou h0);have hbl:=lL (ok.ou h0);obtain⟨h2,h3⟩:=ok.yS h0;have hsP:sumP (g.lay id n).st=sumP g.st+1:=by
  show sumP (g.st.set _ _)=_;rw[tJ _ _ _ h2,←h3];simp only;omega
 have hsB:fC (g.lay id n).st=fC g.st+n:=by
  have:=Bo g.st (g.at id).toNat ⟨(g.x id).p+1,(g.x id).b+n,(g.x id).m⟩ h2;rw[←h3]at this;show fC (g.st.set _ _)=_;simp only at this;omega
 have hlb:fC g.st+n<18446744073709551616:=by
  have h4:=hok.Uf;have h5:=hok.Ue.bytes;rw[hsB]at h4;have h6:(g.lay id n).c=g.c:=rfl;rw[h6]at h4 h5;unfold yB at h5;omega
 have hlp:sumP g.st≤4096:=by have:=ok.pks;have:=ok.EW;omega
 refine(aef (sumP g.st) (fC g.st) id n (g.x id).p (g.x id).b (g.x id).m hid hb rfl rfl rfl ht hn hmem ⟨hxb.1,by omega⟩ ⟨by omega,by omega⟩ (by omega) hlb).mono ?_;rintro e w' ⟨he,h7,h8,h9⟩;refine⟨he,⟨Ft,tb,rfl,?_,by rw[hst]at h8;exact h8,hn,hok⟩,h9⟩;have e:gC (g.lay id n) tb=(((gC g tb).set 11 (.int .i64 (sumP g.st+1))).set 12 (.int .u64 ((fC g.st:Int)+n))):=by
  unfold gC;rw[hsP,hsB];simp[Ga.lay,Ga.put]
 rw[e];exact h7
end Go.Proofs.YtjiehhlghjnfhaaGreatDoor
