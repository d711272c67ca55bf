/- Queues with bounds (layer 12): in memory; first, Peek. -/
import Derived.Test.YtjiehhlghjnfhaaGreatDoorMTopLineF6
import Derived.Test.YtjiehhlghjnfhaaGreatDoorMTopLineF9
import Derived.Test.YtjiehhlghjnfhaaGreatDoorMTopLineF8
import Derived.Test.YtjiehhlghjnfhaaGreatDoorMTopLineF0
import Derived.Test.YtjiehhlghjnfhaaGreatDoorMTopLineF2
import Derived.ProofKit
import Derived.OpenShut
set_option linter.unusedVariables false
set_option linter.unusedSimpArgs false
set_option maxHeartbeats 4000000
namespace Go.Proofs.YtjiehhlghjnfhaaGreatDoor
open Go Go.RowKit Go.Shelf
def pR (p:Nat):Value:=.pointer (some ⟨p,0,none⟩)
structure F6 (w:World) (qb room:Nat) (bs:List Nat) (Qs:List (List It)) (v1 v2:Value) (ps:List Nat) (Fs:Nat→Nat→Prop):Prop where
 top:ag w qb [v1,v2,.int .i64 room,.int .i64 (kT Qs)] 364
 prow:w.ownsRow 0 412 1 v1 ps.length (ps.map pR)
 brow:w.ownsRow 0 22 1 v2 bs.length (bs.map lG)
 plen:ps.length=Qs.length
 blen:bs.length=Qs.length
 few:1≤Qs.length∧Qs.length≤32
 tot:kT Qs≤room∧room≤4096
 up:Zc bs
 bok:∀b∈bs,b<18446744073709551616
 rings:∀i p Q,ps[i]? =some p→Qs[i]? =some Q→Rg w (Fs i) p room Q
 apart:∀i j b,i<ps.length→j<ps.length→i≠j→Fs i b→¬Fs j b
def Zr (qb:Nat) (v1 v2:Value) (ps:List Nat) (Fs:Nat→Nat→Prop):Nat→Prop:=fun b=>b=qb∨v1.ownBlock=some b∨v2.ownBlock=some b∨∃i,i<ps.length∧Fs i b
def Qu (w:World) (F:Nat→Prop) (qb room:Nat) (bs:List Nat) (Qs:List (List It)):Prop:=∃(v1 v2:Value) (ps:List Nat) (Fs:Nat→Nat→Prop),F=Zr qb v1 v2 ps Fs∧F6 w qb room bs Qs v1 v2 ps Fs
theorem F6.kp {T:Nat→Prop} {w w':World} {qb room:Nat} {bs:List Nat} {Qs:List (List It)} {v1 v2:Value} {ps:List Nat} {Fs:Nat→Nat→Prop} (h:F6 w qb room bs Qs v1 v2 ps Fs) (k:Kp T w w') (hT:∀b,Zr qb v1 v2 ps Fs b→¬T b):F6 w' qb room bs Qs v1 v2 ps Fs:=
 {h with top:=h.top.kp k (hT _ (.inl rfl)),prow:=aK h.prow k (fun b hb=>hT b (.inr (.inl hb))),brow:=aK h.brow k (fun b hb=>hT b (.inr (.inr (.inl hb)))),rings:=fun i p Q hp hQ=>(h.rings i p Q hp hQ).kp k (fun b hb=>hT b (.inr (.inr (.inr ⟨i,(List.getElem?_eq_some_iff.1 hp).1,hb⟩))))}
theorem F6.old {w w':World} {qb room:Nat} {bs:List Nat} {Qs:List (List It)} {v1 v2:Value} {ps:List Nat} {Fs:Nat→Nat→Prop} (h:F6 w qb room bs Qs v1 v2 ps Fs) (k:Kp none' w w'):F6 w' qb room bs Qs v1 v2 ps Fs:=h.kp k (fun _ _ x=>x)
theorem Qu.kp {T:Nat→Prop} {w w':World} {F:Nat→Prop} {qb room:Nat} {bs:List Nat} {Qs:List (List It)} (h:Qu w F qb room bs Qs) (k:Kp T w w') (hT:∀b,F b→¬T b):Qu w' F qb room bs Qs:=by
 obtain⟨v1,v2,ps,Fs,rfl,hm⟩:=h;exact⟨v1,v2,ps,Fs,rfl,hm.kp k hT⟩
theorem Qu.old {w w':World} {F:Nat→Prop} {qb room:Nat} {bs:List Nat} {Qs:List (List It)} (h:Qu w F qb room bs Qs) (k:Kp none' w w'):Qu w' F qb room bs Qs:=h.kp k (fun _ _ x=>x)
theorem Qu.lt {w:World} {F:Nat→Prop} {qb room:Nat} {bs:List Nat} {Qs:List (List It)} (h:Qu w F qb room bs Qs) {b:Nat} (hb:F b):b<w.heap.size:=by
 obtain⟨v1,v2,ps,Fs,rfl,hm⟩:=h;rcases hb with rfl|hb|hb|⟨i,hi,hb⟩
 ·exact hm.top.lt
 ·exact(aG hm.prow hb).2
 ·exact(aG hm.brow hb).2
 ·exact(hm.rings i _ _ (List.getElem?_eq_getElem hi) (List.getElem?_eq_getElem (by rw[←hm.plen];exact hi))).lt hb
theorem Zt {w:World} {F:Nat→Prop} {rb room:Nat} {Q:List It} (h:Rg w F rb room Q):Calls Tryz.prog 321 #[.pointer (some ⟨rb,0,none⟩)] w fun e w'=>e=.returned (.int .i64 Q.length)∧w=w':=by
 obtain⟨v,S,fr,n,rfl,hm,ok,hroom⟩:=h;rw[ok.len];exact OB hm
def BQ (ps:List Nat) (Qs:List (List It)):Option Addr:=match lW Qs with|some i=>some ⟨ps.getD i 0,0,none⟩|none=>none
set_option maxRecDepth 100000 in
theorem QH {w:World} {qb room:Nat} {bs:List Nat} {Qs:List (List It)} {v1 v2:Value} {ps:List Nat} {Fs:Nat→Nat→Prop} (h:F6 w qb room bs Qs v1 v2 ps Fs):
 Calls Tryz.prog 317 #[.pointer (some ⟨qb,0,none⟩)] w fun e w'=>e=.returned (.pointer (BQ ps Qs))∧w=w':=by
 have c0:=h.top.cell 0 rfl;obtain⟨g,cap,rfl,_⟩:=dJ h.prow (by rw[h.plen];have:=h.few;omega);have hpl:ps.length≤32:=by rw[h.plen];exact h.few.2
 have HM:=ae h;obtain⟨R,hR⟩:∃R,BQ ps Qs=R:=⟨_,rfl⟩
 rw[hR];have HR:=ae hR;clear h hR
 go_enter Tryz.func317,Tryz.ntmps317
 go_wp2_with fail
 go_loop [12] (fun i0=>∃i:Nat,i0=.int .i64 i∧i≤ps.length∧Hid (∀j,j<i→Qs[j]? =some [])) (fun i0=>ps.length-(intOf i0).toNat)
 case atStart=>exact⟨0,rfl,Nat.zero_le _,fun j hj=>by omega⟩
 case round=>
  obtain⟨i,rfl,hi,hr⟩:=hrel;by_cases hlt:i<ps.length
  ·have hii:(i:Int)<ps.length:=by omega
   have hQl:i<Qs.length:=by rw[←HM.out.plen];exact hlt
   have cp:w.cell? ⟨g,i,none⟩=some (.pointer (some ⟨ps[i],0,none⟩)):=eY HM.out.prow i (by rw[List.getElem?_map,List.getElem?_eq_getElem hlt];rfl);have HL:=ae (Zt (HM.out.rings i _ _ (List.getElem?_eq_getElem hlt) (List.getElem?_eq_getElem hQl)));obtain⟨Q,hQ⟩:∃Q,Qs[i]=Q:=⟨_,rfl⟩
   have Zu:Qs[i]? =some Q:=by rw[List.getElem?_eq_getElem hQl,hQ]
   have IP:ps.getD i 0=ps[i]:=by rw[List.getD_eq_getElem?_getD,List.getElem?_eq_getElem hlt];rfl
   rw[hQ]at HL;obtain⟨p,hp⟩:∃p,ps[i]=p:=⟨_,rfl⟩
   rw[hp]at cp HL IP;clear hQ hp hQl;cases Q with
   |nil=>
    have HN:Hid (∀j,j<i+1→Qs[j]? =some []):=ae (fun j hj=>by
     by_cases e:j=i
     ·subst e;exact Zu
     ·exact hr.out j (by omega))
    simp only[List.length_nil]at HL;clear Zu IP
    go_wp2_with fail
    refine HL.out.mono ?_;rintro e w1 ⟨rfl,rfl⟩
    go_wp2_with fail
    go_round
    case rel=>exact⟨i+1,by go_num,by omega,HN.out⟩
    case measure=>simp[intOf];omega
   |cons q Q=>
    have HF:Hid (R=some ⟨p,0,none⟩):=ae (by
     rw[←HR.out];unfold BQ;rw[VM Zu hr.out];simp only;rw[IP])
    obtain⟨m,hm⟩:∃m,(q::Q).length=m:=⟨_,rfl⟩
    have hm0:(0:Int)<m:=by have:m=Q.length+1:=by rw[←hm];rfl
                           omega
    rw[hm]at HL;clear Zu IP hm
    go_wp2_with fail
    refine HL.out.mono ?_;rintro e w1 ⟨rfl,rfl⟩
    go_wp2_with fail
    go_ret
    exact⟨by rw[HF.out];rfl,rfl⟩
  ·have hie:i=ps.length:=by omega
   have HF:Hid (R=none):=ae (by
    rw[←HR.out];unfold BQ;cases e:lW Qs with
    |none=>rfl
    |some k=>
     obtain⟨q,Q,h3,h4⟩:=mJ e;have hk:k<Qs.length:=(List.getElem?_eq_some_iff.1 h3).1
     rw[hr.out k (by rw[hie,HM.out.plen];exact hk)]at h3;cases h3)
   subst hie
   go_wp2_with fail
   go_ret
   exact⟨by rw[HF.out];rfl,rfl⟩
def rO (Qs:List (List It)):It×Bool:=match lW Qs with|some i=>sS (Qs.getD i [])|none=>(sQ,false)
theorem Zv {w:World} {qb room:Nat} {bs:List Nat} {Qs:List (List It)} {v1 v2:Value} {ps:List Nat} {Fs:Nat→Nat→Prop} (h:F6 w qb room bs Qs v1 v2 ps Fs) (W:World) (k:Kp none' w W):
 Calls Tryz.prog 318 #[.pointer (BQ ps Qs)] W fun e w'=>e=.returned (.tuple #[.agg (iE (rO Qs).1).toArray,.bool (rO Qs).2])∧Kp none' W w':=by
 unfold BQ rO;cases e:lW Qs with
 |none=>exact OC W
 |some i=>
  obtain⟨q,Q,h3,h4⟩:=mJ e;have hi:i<Qs.length:=(List.getElem?_eq_some_iff.1 h3).1;have hp:ps[i]? =some (ps.getD i 0):=by
   have hl:i<ps.length:=by rw[h.plen];exact hi
   rw[List.getD_eq_getElem?_getD,List.getElem?_eq_getElem hl];rfl
  have hQ:Qs.getD i []=q::Q:=by rw[List.getD_eq_getElem?_getD,h3];rfl
  simp only;rw[hQ];exact QE ((h.rings i _ _ hp h3).old k)
set_option maxRecDepth 100000 in
theorem acs {w:World} {qb room:Nat} {bs:List Nat} {Qs:List (List It)} {v1 v2:Value} {ps:List Nat} {Fs:Nat→Nat→Prop} (h:F6 w qb room bs Qs v1 v2 ps Fs):
 Calls Tryz.prog 314 #[.pointer (some ⟨qb,0,none⟩)] w fun e w'=>e=.returned (.tuple #[.int .u64 (rO Qs).1.rank,.agg (rG (rO Qs).1.x).toArray,.bool (rO Qs).2])∧Kp none' w w':=by
 have HH:=ae (fun W (k:Kp none' w W)=>Zv h W k);have HF:=ae (fun W (k:Kp none' w W)=>QH (h.old k));generalize BQ ps Qs=R at*;obtain⟨⟨⟨r,⟨fl,id,ln⟩⟩,is⟩,hx⟩:∃x,rO Qs=x:=⟨_,rfl⟩
 rw[hx]at HH ⊢;clear hx h;show Calls _ _ _ _ fun e w'=>e=.returned (.tuple #[.int .u64 (r:Int),.agg #[.int .u32 (fl:Int),.int .u32 (id:Int),.int .u64 (ln:Int)],.bool is])∧Kp none' w w'
 have HB:=ae (ag.new w [.int .u32 0,.int .u32 0,.int .u64 0] 62);have HK:=ae ((Kp.refl none' w).alloc (.cells #[.int .u32 0,.int .u32 0,.int .u64 0] 62))
 go_enter Tryz.func314,Tryz.ntmps314
 go_wp2_with fail
 refine(HF.out _ HK.out).mono ?_;rintro e w1 ⟨rfl,rfl⟩
 go_wp2_with fail
 refine(HH.out _ HK.out).mono ?_;rintro e w2 ⟨rfl,hk2⟩;have HB2:=ae (HB.out.kp hk2 (fun x=>x));have ak:=ae (HK.out.trans hk2);clear hk2;have hwl:w.heap.size<w2.heap.size:=HB2.out.lt;have b0:=HB2.out.cell 0 rfl;have b1:=HB2.out.cell 1 rfl;have b2:=HB2.out.cell 2 rfl;have bf:=fun j=>HB2.out.fz j
 simp only[iE]
 go_wp2_with fail
 go_region
 all_goals
  go_wp2_with fail
  exact gY (by exact rfl) (((((HB2.out.set 0 (.int .u32 (fl:Int))).set 1 (.int .u32 (id:Int))).set 2 (.int .u64 (ln:Int))).alloc _).drew) _ Tryz.underlying62 rfl fZ (by exact rfl) ⟨rfl,((((ak.out.set (p:=⟨w.heap.size,0,none⟩) (.inr (Nat.le_refl _)) _).set (p:=⟨w.heap.size,1,none⟩) (.inr (Nat.le_refl _)) _).set (p:=⟨w.heap.size,2,none⟩) (.inr (Nat.le_refl _)) _).alloc _).drew⟩
theorem Rg.ty {w:World} {F:Nat→Prop} {rb room:Nat} {Q:List It} (h:Rg w F rb room Q) {b:Nat} (hb:F b):∃cs t,w.heap[b]? =some (.cells cs t (0,0))∧(t=430∨t=416):=by
 obtain⟨v,S,fr,n,rfl,hm,ok,h4⟩:=h;rcases hb with rfl|hb
 ·exact⟨_,_,hm.top.is,.inl rfl⟩
 ·obtain⟨cur,hc⟩:=su hm.row hb;exact⟨_,_,hc,.inr rfl⟩
theorem Rg.ne {w:World} {F:Nat→Prop} {rb room:Nat} {Q:List It} (h:Rg w F rb room Q) {b:Nat} {cs:List Value} {t:TypeId} (hb:ag w b cs t) (h1:t≠430) (h2:t≠416):¬F b:=fun hf=>by
 obtain⟨cs',t',h3,h4⟩:=h.ty hf;have:=hb.is.symm.trans h3;simp only[Option.some.injEq,Obj.cells.injEq]at this;rcases h4 with h4|h4
 ·exact h1 (this.2.1.trans h4)
 ·exact h2 (this.2.1.trans h4)
theorem Rg.Zw {w:World} {F:Nat→Prop} {rb room:Nat} {Q:List It} (h:Rg w F rb room Q) {base size n:Nat} {e:TypeId} {v:Value} {xs:List Value} (ho:w.ownsRow base e size v n xs) (h1:e≠430) (h2:e≠416):∀b,v.ownBlock=some b→¬F b:=fun b hb hf=>by
 obtain⟨cs',t',h3,h4⟩:=h.ty hf;obtain⟨cur,h5⟩:=su ho hb;have:=h5.symm.trans h3;simp only[Option.some.injEq,Obj.cells.injEq]at this;rcases h4 with h4|h4
 ·exact h1 (this.2.1.trans h4)
 ·exact h2 (this.2.1.trans h4)
set_option maxRecDepth 100000 in
theorem acu {w:World} {qb room p m:Nat} {v1 v2:Value} {G:Nat→Prop} (q:It) (Q:List It) (hb:ag w qb [v1,v2,.int .i64 room,.int .i64 m] 364) (hr:Rg w G p room (q::Q)) (hG:¬G qb) (hm:1≤m∧m≤4096)
 (HF:∀W,Kp none' w W→Calls Tryz.prog 317 #[.pointer (some ⟨qb,0,none⟩)] W fun e w'=>e=.returned (.pointer (some ⟨p,0,none⟩))∧W=w'):
 Calls Tryz.prog 315 #[.pointer (some ⟨qb,0,none⟩)] w fun e w'=>e=.returned (.tuple #[.int .u64 q.rank,.agg (rG q.x).toArray,.bool true])∧ag w' qb [v1,v2,.int .i64 room,.int .i64 ((m:Int)-1)] 364∧Rg w' G p room Q∧Kp (fun b=>b=qb∨G b) w w':=by
 have HF:=ae HF;have HT:=ae (fun W (k:Kp none' w W)=>Zj (hr.old k));have HLG:=ae (fun b (hb:G b)=>hr.lt hb);have HQ:=ae hb;have HG:=ae hG;obtain⟨r,⟨fl,id,ln⟩⟩:=q;clear hb hr hG;show Calls _ _ _ _ fun e w'=>e=.returned (.tuple #[.int .u64 (r:Int),.agg #[.int .u32 (fl:Int),.int .u32 (id:Int),.int .u64 (ln:Int)],.bool true])∧_
 have HB:=ae (ag.new w [.int .u32 0,.int .u32 0,.int .u64 0] 62);have HK:=ae ((Kp.refl none' w).alloc (.cells #[.int .u32 0,.int .u32 0,.int .u64 0] 62))
 go_enter Tryz.func315,Tryz.ntmps315
 go_wp2_with fail
 refine(HF.out _ HK.out).mono ?_;rintro e w1 ⟨rfl,rfl⟩
 go_wp2_with fail
 refine(HT.out _ HK.out).mono ?_;rintro e w2 ⟨rfl,hr2,hk2⟩;have HB2:=ae (HB.out.kp hk2 (fun x=>by have:=HLG.out _ x;omega));have I9:=ae ((HQ.out.kp HK.out (fun x=>x)).kp hk2 HG.out);have ak:Hid (Kp G w w2):=ae ((HK.out.mono (fun _ _ x=>x.elim)).trans hk2);have HR2:=ae hr2;clear hk2 hr2;have hwl:w.heap.size<w2.heap.size:=HB2.out.lt;have q3:=I9.out.cell 3 rfl;have qf:=I9.out.fz 3;have yu:qb<w2.heap.size:=I9.out.lt;simp only[iE]
 go_wp2_with fail
 have hqw:qb≠w.heap.size:=by have:=HQ.out.lt;omega
 have hkq:Kp (fun b=>b=qb) w2 (w2.setCell ⟨qb,3,none⟩ (.int .i64 ((m:Int)-1))):=(Kp.refl (fun b=>b=qb) w2).set (p:=⟨qb,3,none⟩) (.inl rfl) _;have HQ3:=ae (I9.out.set 3 (.int .i64 ((m:Int)-1)));have HB3:=ae (HB2.out.kp hkq (fun e=>hqw e.symm));have HR3:=ae (HR2.out.kp hkq (fun b hb e=>HG.out (by rw[←e];exact hb)));have aF:Hid (Kp (fun b=>b=qb∨G b) w (w2.setCell ⟨qb,3,none⟩ (.int .i64 ((m:Int)-1)))):=ae ((ak.out.mono (fun b _ hb=>.inr hb)).trans (hkq.mono (fun b _ hb=>.inl hb)));have hsz:(w2.setCell ⟨qb,3,none⟩ (.int .i64 ((m:Int)-1))).heap.size=w2.heap.size:=by simp[World.setCell]
 clear hkq q3 qf HR2 HB2 I9 ak;obtain⟨W3,hW3⟩:∃W3,w2.setCell ⟨qb,3,none⟩ (.int .i64 ((m:Int)-1))=W3:=⟨_,rfl⟩
 rw[hW3]at hsz HQ3 HB3 HR3 aF ⊢;rw[←hsz]at hwl yu ⊢;clear hW3 hsz;have b0:=HB3.out.cell 0 rfl;have b1:=HB3.out.cell 1 rfl;have b2:=HB3.out.cell 2 rfl;have bf:=fun j=>HB3.out.fz j
 go_region
 all_goals
  go_wp2_with fail
  have hks:Kp (fun b=>b=w.heap.size) W3 (((((W3.setCell ⟨w.heap.size,0,none⟩ (.int .u32 (fl:Int))).setCell ⟨w.heap.size,1,none⟩ (.int .u32 (id:Int))).setCell ⟨w.heap.size,2,none⟩ (.int .u64 (ln:Int))).alloc (.cells #[.int .u64 (r:Int),.int .u32 (fl:Int),.int .u32 (id:Int),.int .u64 (ln:Int)] 416)).drew):=(((((Kp.refl (fun b=>b=w.heap.size) W3).set (p:=⟨w.heap.size,0,none⟩) (.inl rfl) _).set (p:=⟨w.heap.size,1,none⟩) (.inl rfl) _).set (p:=⟨w.heap.size,2,none⟩) (.inl rfl) _).alloc _).drew;refine gY (by exact rfl) (((((HB3.out.set 0 (.int .u32 (fl:Int))).set 1 (.int .u32 (id:Int))).set 2 (.int .u64 (ln:Int))).alloc _).drew) _ Tryz.underlying62 rfl fZ (by exact rfl) ⟨rfl,HQ3.out.kp hks hqw,HR3.out.kp hks (fun b hb e=>by have:=HLG.out b hb;omega),aF.out.then hks (fun b hb e=>by omega)⟩
theorem V4 {Qs:List (List It)} {i:Nat} {q:It} {Q:List It} (h:Qs[i]? =some (q::Q)):kT (Qs.set i Q)+1=kT Qs:=by
 induction Qs generalizing i with
 |nil=>simp at h
 |cons a r ih=>
  cases i with
  |zero=>
   simp only[List.getElem?_cons_zero,Option.some.injEq]at h;subst h;simp[kT];omega
  |succ i=>
   have:=ih (i:=i) (by simpa using h);simp only[kT,List.set_cons_succ,List.map_cons,List.sum_cons]at*;omega
theorem adL {w:World} {F:Nat→Prop} {qb room:Nat} {bs:List Nat} {Qs:List (List It)} {i:Nat} {q:It} {Q:List It} (h:Qu w F qb room bs Qs) (hf:lW Qs=some i) (hQ:Qs[i]? =some (q::Q)):
 Calls Tryz.prog 315 #[.pointer (some ⟨qb,0,none⟩)] w fun e w'=>e=.returned (.tuple #[.int .u64 q.rank,.agg (rG q.x).toArray,.bool true])∧Qu w' F qb room bs (Qs.set i Q)∧Kp F w w':=by
 obtain⟨v1,v2,ps,Fs,rfl,hm⟩:=h;have hi:i<Qs.length:=(List.getElem?_eq_some_iff.1 hQ).1;have hil:i<ps.length:=by rw[hm.plen];exact hi
 have hp:=List.getElem?_eq_getElem hil;have hr:=hm.rings i _ _ hp hQ;have ht:=V4 hQ;have IP:ps.getD i 0=ps[i]:=by rw[List.getD_eq_getElem?_getD,hp];rfl
 have hG:=hr.ne hm.top (by decide) (by decide);have h1:=hr.Zw hm.prow (by decide) (by decide);have h2:=hr.Zw hm.brow (by decide) (by decide);have n1:=az hm.prow hm.top (by decide);have n2:=az hm.brow hm.top (by decide)
 refine(acu q Q hm.top hr hG (by have:=hm.tot;omega) (fun W k=>by
  have:=QH (hm.old k);unfold BQ at this;rw[hf]at this;simp only at this;rw[IP]at this
  exact this)).mono ?_
 rintro e w' ⟨he,hT,hr',hk⟩;have hnot:∀b,(∃j,j<ps.length∧j≠i∧Fs j b)→¬(b=qb∨Fs i b):=fun b ⟨j,hj,hji,hz⟩ hc=>by
  rcases hc with rfl|hc
  ·have hjl:j<Qs.length:=by rw[←hm.plen];exact hj
   exact(hm.rings j _ _ (List.getElem?_eq_getElem hj) (List.getElem?_eq_getElem hjl)).ne hm.top (by decide) (by decide) hz
  ·exact hm.apart j i b hj hil hji hz hc
 refine⟨he,⟨v1,v2,ps,Fs,rfl,{hm with top:= ?_,prow:=aK hm.prow hk (fun b hz hc=> ?_),brow:=aK hm.brow hk (fun b hz hc=> ?_),plen:=by rw[List.length_set];exact hm.plen,blen:=by rw[List.length_set];exact hm.blen,few:=by rw[List.length_set];exact hm.few,tot:=⟨by have:=hm.tot;omega,hm.tot.2⟩,rings:=fun j p' Q' hp' hQ'=> ?_}⟩,hk.mono (fun b _ hc=> ?_)⟩
 ·have e2:((kT (Qs.set i Q):Nat):Int)=(kT Qs:Int)-1:=by omega
  rw[e2];exact hT
 ·rcases hc with rfl|hc
  ·exact n1 hz
  ·exact h1 b hz hc
 ·rcases hc with rfl|hc
  ·exact n2 hz
  ·exact h2 b hz hc
 ·by_cases e2:j=i
  ·subst e2;rw[List.getElem?_set_self hi]at hQ';injection hQ' with hQ'
   subst hQ';rw[hp]at hp';injection hp' with hp'
   subst hp';exact hr'
  ·rw[List.getElem?_set_ne (fun e3=>e2 e3.symm)]at hQ';exact(hm.rings j p' Q' hp' hQ').kp hk (fun b hb=>hnot b ⟨j,(List.getElem?_eq_some_iff.1 hp').1,e2,hb⟩)
 ·rcases hc with rfl|hc
  ·exact .inl rfl
  ·exact .inr (.inr (.inr ⟨i,hil,hc⟩))
structure Em (w wr:World) (v:Value) (ps:List Nat) (room k:Nat):Prop where
 row:wr.ownsRow w.heap.size 412 1 v k (ps.map pR)
 len:ps.length=k
 rings:∀(i p:Nat),ps[i]? =some p→ag wr p [.slice none 0 0,.int .i64 0,.int .i64 0,.int .i64 room] 430∧w.heap.size≤p
 inj:∀(i j p:Nat),ps[i]? =some p→ps[j]? =some p→i=j
 kp:Kp none' w wr
theorem Em.step {w wr w1 W w8:World} {v v8:Value} {ps:List Nat} {room k rb:Nat} (h:Em w wr v ps room k) (hk1:Kp none' wr w1) (hb:ag w1 rb [.slice none 0 0,.int .i64 0,.int .i64 0,.int .i64 room] 430) (hr:wr.heap.size≤rb)
 (hkW:Kp none' w1 W) (ho:w8.ownsRow w.heap.size 412 1 v8 (k+1) (ps.map pR++[pR rb])) (hg:W.grownBy w8 v.ownBlock):Em w w8 v8 (ps++[rb]) room (k+1):=by
 have hO:W.ownsRow w.heap.size 412 1 v k (ps.map pR):=aK (aK h.row hk1 (fun _ _ x=>x)) hkW (fun _ _ x=>x);have hB:∀p,ag W p [.slice none 0 0,.int .i64 0,.int .i64 0,.int .i64 room] 430→ag w8 p [.slice none 0 0,.int .i64 0,.int .i64 0,.int .i64 room] 430:=fun p hp=>hp.grown hg (fun e=>az hO hp (by decide) e.symm)
 have hlt:∀(i p:Nat),ps[i]? =some p→p<wr.heap.size:=fun i p hp=>(h.rings i p hp).1.lt
 have hcase:∀(i p:Nat),(ps++[rb])[i]? =some p→ps[i]? =some p∨(i=ps.length∧p=rb):=fun i p hp=>by
  by_cases hi:i<ps.length
  ·rw[List.getElem?_append_left hi]at hp;exact .inl hp
  ·rw[List.getElem?_append_right (by omega)]at hp;obtain⟨h1,h2⟩:=List.getElem?_eq_some_iff.1 hp;simp only[List.length_cons,List.length_nil]at h1;have h0:i-ps.length=0:=by omega
   simp only[h0,List.getElem_cons_zero]at h2;exact .inr ⟨by omega,h2.symm⟩
 refine⟨by rw[List.map_append];exact ho,by rw[List.length_append,h.len];rfl,fun i p hp=> ?_,fun i j p hi hj=> ?_,((h.kp.trans hk1).trans hkW).grown hg (fun b hb=>.inr (aG hO hb).1)⟩
 ·rcases hcase i p hp with h1|⟨_,rfl⟩
  ·exact⟨hB p (((h.rings i p h1).1.kp hk1 (fun x=>x)).kp hkW (fun x=>x)),(h.rings i p h1).2⟩
  ·exact⟨hB _ (hb.kp hkW (fun x=>x)),by have:=h.kp.size;omega⟩
 ·rcases hcase i p hi with h1|⟨h1,h2⟩<;>rcases hcase j p hj with h3|⟨h3,h4⟩
  ·exact h.inj i j p h1 h3
  ·have:=hlt i p h1;omega
  ·have:=hlt j p h3;omega
  ·omega
theorem ay {P:Program} {f:Nat} {a:Array Value} {w:World} {Q:Ending→World→Prop} (h:∀PP:Ending→World→Prop,Hid (∀e w',Q e w'→PP e w')→Calls P f a w PP):Calls P f a w Q:=h Q (ae fun _ _ h=>h)
end Go.Proofs.YtjiehhlghjnfhaaGreatDoor
namespace Go.Proofs.YtjiehhlghjnfhaaGreatDoor
open Go Go.RowKit Go.Shelf Go.ChangeShapes Go.WideShapes Go.ChangeAt
structure Bc where
 kind:Nat
 head:kF
 body:ByteArray
 mO:Nat
instance:Inhabited Bc:=⟨⟨0,default,ByteArray.empty,0⟩⟩
def yK (a:Bc):List Value:=[.int .u8 a.kind,.int .u8 a.head.ds,.int .u16 a.head.id,.int .u8 a.head.eX,.int .u32 a.head.s,.int .u32 a.head.d,.int .u16 a.head.sp,.int .u16 a.head.p,.string a.body,.int .u64 a.mO]
theorem Eo (a:Bc):(yK a).length=10:=rfl
structure Bc.Ok (a:Bc):Prop where
 kind:a.kind<256
 head:a.head.Fit
 mO:a.mO<18446744073709551616
theorem abk:Tryz.prog.cellsOf 42=1:=by kernel_rfl
theorem V5:Tryz.prog.cellsOf 41=1:=by kernel_rfl
theorem oc8:Tryz.prog.cellsOf 5=1:=by kernel_rfl
theorem ocH:Tryz.prog.cellsOf 44=7:=by kernel_rfl
theorem b32 {i:Int} (h:(Lit.int .u32 i).wf=true):0≤i∧i<4294967296:=by
 simp[Lit.wf,IntKind.min,IntKind.max,IntKind.signed,IntKind.bits]at h
 omega
theorem b16 {i:Int} (h:(Lit.int .u16 i).wf=true):0≤i∧i<65536:=by
 simp[Lit.wf,IntKind.min,IntKind.max,IntKind.signed,IntKind.bits]at h
 omega
theorem b8 {i:Int} (h:(Lit.int .u8 i).wf=true):0≤i∧i<256:=by
 simp[Lit.wf,IntKind.min,IntKind.max,IntKind.signed,IntKind.bits]at h
 omega
theorem ocA:Tryz.prog.cellsOf 46=10:=by kernel_rfl
theorem adM:Tryz.prog.cellsOf 22=1:=by kernel_rfl
theorem ocS:Tryz.prog.cellsOf 9=1:=by kernel_rfl
section
variable {H:Type} {enc:TypeId×Value→H} {w:World} {base:Nat} {spare:Nat→Bool} {held:Bool}
theorem at_of_take {cs:List Value} {o:Nat} {v:Value} (h:(cs.drop o).take 1=[v]):cs[o]? =some v:=by
 have:((cs.drop o).take 1)[0]? =some v:=by rw[h];rfl
 rw[List.getElem?_take,if_pos (by omega),List.getElem?_drop]at this;simpa using this
theorem zQ {α:Type} {xs:List α} {i n:Nat} (h:xs.length=n) (hi:i<n):∃y,xs[i]? =some y:=⟨xs[i]'(by omega),List.getElem?_eq_getElem _⟩
theorem QI {k:IntKind} {t:TypeId} (ht:Tryz.prog.underlying t=some (.int k)) {m o:Nat} {cs:List Value} {y:DataW H×List MemPlace} (h:DataW.trod enc Tryz.prog w base spare held m t ((cs.drop o).take 1)=some y):∃i,cs[o]? =some (.int k i)∧(Lit.int k i).wf=true:=by
 obtain⟨i,e,_,w0⟩:=DataW.trod_int ht h;exact⟨i,at_of_take e,w0⟩
theorem b64 {i:Int} (h:(Lit.int .u64 i).wf=true):0≤i∧i<18446744073709551616:=by
 simp[Lit.wf,IntKind.min,IntKind.max,IntKind.signed,IntKind.bits]at h
 omega
set_option maxRecDepth 100000 in
theorem V6 (n:Nat) (cs:List Value) (x:DataW H×List MemPlace) (h:DataW.trod enc Tryz.prog w base spare held n 44 cs=some x):∃a:kF,a.Fit∧cs=fO a:=by
 obtain⟨hlen,hf⟩:=Ir Tryz.underlying44 ocH (by decide) (by intro f hf;simp at hf;rcases hf with rfl|rfl|rfl|rfl|rfl|rfl|rfl;(exact oc8);(exact V5);(exact oc8);(exact abk);(exact abk);(exact V5);exact V5) h;match cs,hlen with
 | [c0,c1,c2,c3,c4,c5,c6],_=>
  obtain⟨n0,y0,h0⟩:=hf 0 _ c0 rfl rfl;obtain⟨n1,y1,h1⟩:=hf 1 _ c1 rfl rfl;obtain⟨n2,y2,h2⟩:=hf 2 _ c2 rfl rfl;obtain⟨n3,y3,h3⟩:=hf 3 _ c3 rfl rfl;obtain⟨n4,y4,h4⟩:=hf 4 _ c4 rfl rfl;obtain⟨n5,y5,h5⟩:=hf 5 _ c5 rfl rfl;obtain⟨n6,y6,h6⟩:=hf 6 _ c6 rfl rfl;obtain⟨i0,e0,_,w0⟩:=DataW.trod_int Tryz.underlying5 h0;obtain⟨i1,e1,_,w1⟩:=DataW.trod_int Tryz.underlying41 h1;obtain⟨i2,e2,_,w2⟩:=DataW.trod_int Tryz.underlying5 h2;obtain⟨i3,e3,_,w3⟩:=DataW.trod_int Tryz.underlying42 h3;obtain⟨i4,e4,_,w4⟩:=DataW.trod_int Tryz.underlying42 h4;obtain⟨i5,e5,_,w5⟩:=DataW.trod_int Tryz.underlying41 h5;obtain⟨i6,e6,_,w6⟩:=DataW.trod_int Tryz.underlying41 h6;simp at e0 e1 e2 e3 e4 e5 e6
  subst e0 e1 e2 e3 e4 e5 e6;have b0:=b8 w0;have b1:=b16 w1;have b2:=b8 w2;have b3:=b32 w3;have b4:=b32 w4;have b5:=b16 w5;have b6:=b16 w6;obtain⟨x0,rfl⟩:∃a:Nat,i0=a:=⟨i0.toNat,by omega⟩
  obtain⟨x1,rfl⟩:∃a:Nat,i1=a:=⟨i1.toNat,by omega⟩
  obtain⟨x2,rfl⟩:∃a:Nat,i2=a:=⟨i2.toNat,by omega⟩
  obtain⟨x3,rfl⟩:∃a:Nat,i3=a:=⟨i3.toNat,by omega⟩
  obtain⟨x4,rfl⟩:∃a:Nat,i4=a:=⟨i4.toNat,by omega⟩
  obtain⟨x5,rfl⟩:∃a:Nat,i5=a:=⟨i5.toNat,by omega⟩
  obtain⟨x6,rfl⟩:∃a:Nat,i6=a:=⟨i6.toNat,by omega⟩
  exact⟨⟨x0,x1,x2,x3,x4,x5,x6⟩,⟨⟨by show x3<_;omega,by show x4<_;omega,by show x6<_;omega⟩,by show x0<_;omega,by show x1<_;omega,by show x2<_;omega,by show x5<_;omega⟩,rfl⟩
theorem Zx {t:TypeId} (ht:Tryz.prog.underlying t=some .string) {m o:Nat} {cs:List Value} {y:DataW H×List MemPlace} (h:DataW.trod enc Tryz.prog w base spare held m t ((cs.drop o).take 1)=some y):∃s,cs[o]? =some (.string s):=by
 obtain⟨s,e,_⟩:=DataW.trod_string ht h;exact⟨s,at_of_take e⟩
set_option maxRecDepth 100000 in
theorem V7 (n:Nat) (cs:List Value) (x:DataW H×List MemPlace) (h:DataW.trod enc Tryz.prog w base spare held n 46 cs=some x):∃a:Bc,a.Ok∧cs=yK a:=by
 obtain⟨xs,m,_,_,hl,hlen,hf⟩:=DataW.trod_struct Tryz.underlying46 h;rw[ocA]at hl;have g0:DataW.trod enc Tryz.prog w base spare held m 5 ((cs.drop 0).take (Tryz.prog.cellsOf 5))=xs[0]? :=hf 0 _ rfl;have g1:DataW.trod enc Tryz.prog w base spare held m 44 ((cs.drop 1).take (Tryz.prog.cellsOf 44))=xs[1]? :=hf 1 _ rfl;have g2:DataW.trod enc Tryz.prog w base spare held m 9 ((cs.drop 8).take (Tryz.prog.cellsOf 9))=xs[2]? :=hf 2 _ rfl;have g3:DataW.trod enc Tryz.prog w base spare held m 22 ((cs.drop 9).take (Tryz.prog.cellsOf 22))=xs[3]? :=hf 3 _ rfl;have hl5:xs.length=4:=hlen;obtain⟨y0,e0⟩:=zQ hl5 (show 0<4 by omega);obtain⟨y1,e1⟩:=zQ hl5 (show 1<4 by omega);obtain⟨y2,e2⟩:=zQ hl5 (show 2<4 by omega);obtain⟨y3,e3⟩:=zQ hl5 (show 3<4 by omega);rw[oc8,e0]at g0;rw[ocH,e1]at g1;rw[ocS,e2]at g2;rw[adM,e3]at g3;obtain⟨i0,a0,w0⟩:=QI Tryz.underlying5 g0;obtain⟨hd,hhd,a1⟩:=V6 _ _ _ g1;obtain⟨s,a2⟩:=Zx Tryz.underlying9 g2;obtain⟨i3,a3,w3⟩:=QI Tryz.underlying22 g3;have h0:=b8 w0;have h3:=b64 w3;obtain⟨k,rfl⟩:∃a:Nat,i0=a:=⟨i0.toNat,by omega⟩
 obtain⟨t,rfl⟩:∃a:Nat,i3=a:=⟨i3.toNat,by omega⟩
 refine⟨⟨k,hd,s,t⟩,⟨by show k<_;omega,hhd,by show t<_;omega⟩,?_⟩;match cs,hl with
 | [c0,c1,c2,c3,c4,c5,c6,c7,c8,c9],_=>
  simp[fO]at a0 a1 a2 a3
  obtain⟨q0,q1,q2,q3,q4,q5,q6⟩:=a1;subst a0 a2 a3 q0 q1 q2 q3 q4 q5 q6;rfl
end
def ni (a:Bc):ByteArray:=if a.kind%8=3∨63<a.head.ds then a.body else tx (jY a.head (bl a.body))
set_option maxRecDepth 100000 in
theorem Zy (h:kF) (hd:63<h.ds) (b:ByteArray) (w:World):
 Calls Tryz.prog 45 #[.agg (fO h).toArray,.string b] w fun e w'=>e=.returned (.tuple #[.string ⟨#[]⟩,.int .i64 6])∧Kp none' w w':=by
 obtain⟨ds,id,eX,s,d,sp,p⟩:=h;have i1:(63:Int)<ds:=by have:63<ds:=hd;omega
 have HH0:=ae (ag.new w [.int .u8 ds,.int .u16 id,.int .u8 eX,.int .u32 s,.int .u32 d,.int .u16 sp,.int .u16 p] 44);have aB:=ae ((Kp.refl none' w).alloc (.cells #[.int .u8 ds,.int .u16 id,.int .u8 eX,.int .u32 s,.int .u32 d,.int .u16 sp,.int .u16 p] 44));clear hd;simp only[fO]
 go_enter Tryz.func45,Tryz.ntmps45
 go_wp2_with fail
 go_ret2
 exact⟨rfl,aB.out⟩
set_option maxRecDepth 100000 in
theorem Zz (a:Bc) (ok:a.Ok) (hb:a.body.size≤6000) (w:World):
 Calls Tryz.prog 15 #[.agg (yK a).toArray] w fun e w'=>e=.returned (.string (ni a))∧Kp none' w w':=by
 obtain⟨k,⟨ds,id,eX,s,d,sp,p⟩,bo,t⟩:=a;have hb2:bo.size≤6000:=hb;have HB0:=ae (ag.new w [.int .u8 k,.int .u8 ds,.int .u16 id,.int .u8 eX,.int .u32 s,.int .u32 d,.int .u16 sp,.int .u16 p,.string bo,.int .u64 t] 46);have aB:=ae ((Kp.refl none' w).alloc (.cells #[.int .u8 k,.int .u8 ds,.int .u16 id,.int .u8 eX,.int .u32 s,.int .u32 d,.int .u16 sp,.int .u16 p,.string bo,.int .u64 t] 46));have ZA:((k%8:Nat):Int)=(k:Int)%8:=by omega
 refine ay ?_;intro PP HP;by_cases hd:63<ds
 ·have hp:=fun W=>Zy ⟨ds,id,eX,s,d,sp,p⟩ hd bo W
  simp only[fO]at hp;have Ep:=ae hp;have HE:Hid (ni ⟨k,⟨ds,id,eX,s,d,sp,p⟩,bo,t⟩=bo):=ae (by unfold ni;rw[if_pos (.inr hd)]);clear hp hd hb ok;simp only[yK]
  go_enter Tryz.func15,Tryz.ntmps15
  go_wp2_with fail
  refine(Ep.out _).mono ?_;rintro e w1 ⟨rfl,k1⟩;have ax:=ae (aB.out.trans k1);have c0:=(HB0.out.kp k1 (fun x=>x)).cell 0 rfl;have c8:=(HB0.out.kp k1 (fun x=>x)).cell 8 rfl;clear k1 Ep aB;by_cases h3:(k:Int)%8=3
  all_goals
   go_wp2_with fail
   exact HP.out _ _ ⟨by rw[HE.out];rfl,ax.out⟩
 ·have hp:=fun W=>Qo ⟨ds,id,eX,s,d,sp,p⟩ ok.head (by show ds≤63;omega) bo (by omega) W
  simp only[fO]at hp;obtain⟨x,hx⟩:∃x,tx (jY ⟨ds,id,eX,s,d,sp,p⟩ (bl bo))=x:=⟨_,rfl⟩
  rw[hx]at hp;have Ep:=ae hp;by_cases h3:(k:Int)%8=3
  ·have HE:Hid (ni ⟨k,⟨ds,id,eX,s,d,sp,p⟩,bo,t⟩=bo):=ae (by unfold ni;rw[if_pos (.inl (by show k%8=3;omega))]);clear hp hd hb ok hx;simp only[yK]
   go_enter Tryz.func15,Tryz.ntmps15
   go_wp2_with fail
   refine(Ep.out _).mono ?_;rintro e w1 ⟨rfl,k1⟩;have ax:=ae (aB.out.trans k1);have c0:=(HB0.out.kp k1 (fun x=>x)).cell 0 rfl;have c8:=(HB0.out.kp k1 (fun x=>x)).cell 8 rfl;clear k1 Ep aB
   go_wp2_with fail
   exact HP.out _ _ ⟨by rw[HE.out];rfl,ax.out⟩
  ·have HE:Hid (ni ⟨k,⟨ds,id,eX,s,d,sp,p⟩,bo,t⟩=x):=ae (by unfold ni;rw[if_neg (by show ¬(k%8=3∨63<ds);omega)];exact hx);clear hp hd hb ok hx;simp only[yK]
   go_enter Tryz.func15,Tryz.ntmps15
   go_wp2_with fail
   refine(Ep.out _).mono ?_;rintro e w1 ⟨rfl,k1⟩;have ax:=ae (aB.out.trans k1);have c0:=(HB0.out.kp k1 (fun x=>x)).cell 0 rfl;have c8:=(HB0.out.kp k1 (fun x=>x)).cell 8 rfl;clear k1 Ep aB
   go_wp2_with fail
   exact HP.out _ _ ⟨by rw[HE.out];rfl,ax.out⟩
end Go.Proofs.YtjiehhlghjnfhaaGreatDoor
namespace Go.Proofs.YtjiehhlghjnfhaaGreatDoor
open Go Go.RowKit Go.Shelf
theorem abl {w:World} {v:Value} {l:List Bc} (h:Sl w v l.length 10 (l.flatMap yK)) (i:Nat) (hi:i<l.length):∃b off cap,v=.slice (some ⟨b,off,none⟩) l.length cap∧∀k u,(yK l[i])[k]? =some u→w.cell? ⟨b,off+i*10+k,none⟩=some u:=by
 obtain⟨_,_,ao,cap,rfl,hc⟩:=h;have key:∀k u,(yK l[i])[k]? =some u→(l.flatMap yK)[i*10+k]? =some u:=fun k u hu=>by
  have hk:k<10:=by have:=(List.getElem?_eq_some_iff.1 hu).1;rw[Eo]at this;exact this
  rw[flat_get yK 10 Eo l i k hk,List.getElem?_eq_getElem hi];exact hu
 obtain⟨b,off,rfl,_⟩:=hc _ _ (key 0 _ rfl);refine⟨b,off,cap,rfl,fun k u hu=> ?_⟩;obtain⟨b',off',e,h1⟩:=hc _ _ (key k u hu);injection e with e
 injection e with e1 e2 _
 subst e1 e2;rw[Nat.add_assoc];exact h1
set_option maxRecDepth 100000 in
theorem adN (cs:List Value) (hlen:cs.length=16) (n1 n2:Nat) (h1:n1≤64) (h2:n2≤100) (a1 a2:Option Addr) (c1 c2:Nat) (abm:cs[10]? =some (.slice a1 n1 c1)) (abn:cs[11]? =some (.slice a2 n2 c2)) (v:Value) (l:List Bc) (w:World) (hs:Sl w v l.length 10 (l.flatMap yK)):
 Calls Tryz.prog 8 #[.agg cs.toArray,v] w fun e w'=>(∃b,e=.returned (.bool b)∧(b=false→l.length≤120∧∀a∈l,a.body.size≤6000))∧Kp none' w w':=by
 obtain⟨ao,cap,rfl⟩:∃ao cap,v=.slice ao l.length cap:=by obtain⟨_,_,ao,cap,rfl,_⟩:=hs;exact⟨_,_,rfl⟩
 have HC:=ae (ag.new w cs 28);have HK:Hid (Kp none' w (w.alloc (.cells cs.toArray 28))):=(Kp.refl none' w).alloc _;have HS:=ae (hs.old HK.out);have hn:=hs.max;have e10:=HC.out.cell 10 abm;have e11:=HC.out.cell 11 abn;clear hs abm abn HC;refine ay ?_;intro PP HP
 go_enter Tryz.func8,Tryz.ntmps8
 go_upto_region 1 with fail
 generalize w.alloc (.cells cs.toArray 28)=w0 at*
 go_wp2_with fail
 go_loopw [9,5] (fun i0 s0 wr=>∃(i s:Nat),i0=.int .i64 i∧s0=.int .i64 s∧i≤l.length∧s≤6000∧Hid (∀a∈l.take i,a.body.size≤s)∧wr=w0) (fun i0 _ _=>l.length-(intOf i0).toNat)
 case atStart=>exact⟨0,0,rfl,rfl,Nat.zero_le _,Nat.zero_le _,ae (fun a ha=>by cases ha),rfl⟩
 case round=>
  obtain⟨i,s,rfl,rfl,hi,hsu,HA,rfl⟩:=hrel;by_cases hlt:i<l.length
  ·have hii:(i:Int)<l.length:=by omega
   obtain⟨b,off,cap',e1,hcell⟩:=abl HS.out i hlt;injection e1 with e1 _ e3
   subst e1 e3;have d8:=hcell 8 _ rfl;obtain⟨bo,hbo⟩:∃bo,l[i].body=bo:=⟨_,rfl⟩
   rw[hbo]at d8
   have HA2:Hid (∀a∈l.take (i+1),a.body.size≤max s bo.size):=ae (fun a ha=>by
    rw[List.take_succ_eq_append_getElem hlt]at ha;rcases List.mem_append.1 ha with e|e
    ·have:=HA.out a e;omega
    ·simp only[List.mem_singleton]at e
     subst e;rw[hbo];omega)
   clear hcell hbo HA;by_cases hsz:bo.size≤10000
   ·have hm:min (bo.size:Int) 10000=bo.size:=by omega
    by_cases hf:6000<s+(1+bo.size)
    ·have hf':(6000:Int)<(s:Int)+(1+bo.size):=by omega
     go_wp2_with fail
     exact HP.out _ _ ⟨⟨true,rfl,fun e=>by cases e⟩,HK.out⟩
    ·have hf':¬(6000:Int)<(s:Int)+(1+bo.size):=by omega
     go_wp2_with fail
     go_roundw
     case rel=>exact⟨i+1,s+(1+bo.size),by go_num,by go_num,by omega,by omega,ae (fun a ha=>by have:=HA2.out a ha;omega),trivial⟩
     case measure=>simp[intOf];omega
   ·have hm:min (bo.size:Int) 10000=10000:=by omega
    have hf':(6000:Int)<(s:Int)+10001:=by omega
    go_wp2_with fail
    exact HP.out _ _ ⟨⟨true,rfl,fun e=>by cases e⟩,HK.out⟩
  ·have hil:i=l.length:=by omega
   subst hil;have hii:¬(l.length:Int)<l.length:=by omega
   have HA2:Hid (∀a∈l,a.body.size≤6000):=ae (fun a ha=>by have:=HA.out a (by rw[List.take_length];exact ha);omega);have hq1:¬(100:Int)<n2:=by omega
   have hq2:¬(64:Int)<n1:=by omega
   clear HA;by_cases abo:l.length≤120
   ·have hq:¬(120:Int)<l.length:=by omega
    go_wp2_with fail
    exact HP.out _ _ ⟨⟨_,rfl,fun _=>⟨abo,HA2.out⟩⟩,HK.out⟩
   ·have hq:(120:Int)<l.length:=by omega
    go_wp2_with fail
    exact HP.out _ _ ⟨⟨true,rfl,fun e=>by cases e⟩,HK.out⟩
def Hp (w:World) (F:Nat→Prop) (hb room n:Nat) (S:List (En Pk)):Prop:=∃vc l,F=HF hb vc∧nP w 0 hb vc n room l∧zK sO n l S∧S.length≤room∧room≤4096
theorem Hp.kp {T:Nat→Prop} {w w':World} {F:Nat→Prop} {hb room n:Nat} {S:List (En Pk)} (h:Hp w F hb room n S) (k:Kp T w w') (hT:∀b,F b→¬T b):Hp w' F hb room n S:=by
 obtain⟨vc,l,rfl,hm,hr⟩:=h;exact⟨vc,l,rfl,hm.kp k hT,hr⟩
theorem Hp.old {w w':World} {F:Nat→Prop} {hb room n:Nat} {S:List (En Pk)} (h:Hp w F hb room n S) (k:Kp none' w w'):Hp w' F hb room n S:=h.kp k (fun _ _ x=>x)
theorem Hp.lt {w:World} {F:Nat→Prop} {hb room n:Nat} {S:List (En Pk)} (h:Hp w F hb room n S) {b:Nat} (hF:F b):b<w.heap.size:=by
 obtain⟨vc,l,rfl,hm,hr⟩:=h;exact hm.lt hF
theorem V8 (room:Nat) (h1:1≤room) (h2:room≤4096) (w:World):Calls Tryz.prog 147 #[.int .i64 room] w fun e w'=>∃hb F,e=.returned (.tuple #[.pointer (some ⟨hb,0,none⟩),.int .i64 0])∧Hp w' F hb room 0 []∧(∀b,F b→w.heap.size≤b)∧Kp none' w w':=by
 refine(hNew room h1 h2 w).mono ?_;rintro e w' ⟨hb,he,hm,hl,hk⟩;refine⟨hb,_,he,⟨.slice none 0 0,[],rfl,⟨hm.top,rfl,.inl ⟨rfl,rfl⟩⟩,zK.nil _ _,Nat.zero_le _,h2⟩,fun b h=> ?_,hk⟩;rcases h with rfl|h
 ·exact hl
 ·simp[Value.ownBlock]at h
theorem I_ {w:World} {F:Nat→Prop} {hb room n:Nat} {S:List (En Pk)} (h:Hp w F hb room n S) (hl:S.length<room) (hc:n<9223372036854775807) (r fl id ln:Nat):
 Calls Tryz.prog 276 #[.pointer (some ⟨hb,0,none⟩),.int .u64 r,.agg #[.int .u32 fl,.int .u32 id,.int .u64 ln]] w fun e w'=>e=.returned (.bool true)∧∃F',Hp w' F' hb room (n+1) (iQ S ⟨r,n,⟨fl,id,ln⟩⟩)∧Kp F w w'∧Nw w F F':=by
 obtain⟨vc,l,rfl,hm,hr,h3,h4⟩:=h;refine(hPush w 0 hb vc n room l hm (Nat.zero_le _) (by rw[hr.len];exact hl) h4 hc hr.heap r ⟨fl,id,ln⟩).mono ?_;rintro e w' ⟨he,rM,l',hm',hh,hp,hk,ho⟩;have hR:=hr.push rfl hp hh;refine⟨he,HF hb rM,⟨rM,l',rfl,hm',hR,?_,h4⟩,hk,fun b hb'=> ?_⟩
 ·rw[(iw _ S).length_eq,List.length_cons];omega
 ·rcases hb' with rfl|hb'
  ·exact .inl (.inl rfl)
  ·rcases ho with ho|⟨g,hg,hgl⟩
   ·exact .inl (.inr (by rw[←ho];exact hb'))
   ·rw[hg]at hb';injection hb' with hb';subst hb';exact .inr hgl
def og (S:List (En Pk)):En Pk×Bool:=match S with| []=>(sO,false)|s::_=>(s,true)
theorem zS {w:World} {F:Nat→Prop} {hb room n:Nat} {S:List (En Pk)} (h:Hp w F hb room n S):
 Calls Tryz.prog 274 #[.pointer (some ⟨hb,0,none⟩)] w fun e w'=>e=.returned (.tuple #[.int .u64 (og S).1.rank,.agg (rG (og S).1.x).toArray,.bool (og S).2])∧Kp none' w w':=by
 obtain⟨vc,l,rfl,hm,hr,h3,h4⟩:=h;cases S with
 |nil=>
  have hl:l=[]:=List.eq_nil_of_length_eq_zero (by rw[hr.len];rfl);subst hl;exact Ov w 0 hb vc n room hm
 |cons s T=>
  have h0:0<l.length:=by rw[hr.len,List.length_cons];omega
  obtain⟨T',hT⟩:=hr.head h0;injection hT with h5 h6
  have:=Ed w 0 hb vc n room l hm h0 (by rw[hr.len];omega);rw[←h5]at this;exact this
theorem OG {w:World} {F:Nat→Prop} {hb room n:Nat} {s:En Pk} {T:List (En Pk)} (h:Hp w F hb room n (s::T)):
 Calls Tryz.prog 275 #[.pointer (some ⟨hb,0,none⟩)] w fun e w'=>e=.returned (.tuple #[.int .u64 s.rank,.agg (rG s.x).toArray,.bool true])∧Hp w' F hb room n T∧Kp F w w':=by
 obtain⟨vc,l,rfl,hm,hr,h3,h4⟩:=h;have h0:0<l.length:=by rw[hr.len,List.length_cons];omega
 obtain⟨T',hT⟩:=hr.head h0;have hT2:=hT;injection hT with h5 h6
 subst h6;refine(hPop w 0 hb vc n room l hm h0 (by rw[hr.len];omega) hr.heap).mono ?_;rintro e w' ⟨he,rM,l',hm',hh,hp,hk,ho⟩;rw[←h5]at he;refine⟨he,⟨rM,l',?_,hm',hr.pop hT2 hp hh,by rw[List.length_cons]at h3;omega,h4⟩,hk⟩;funext b;unfold HF;rw[ho]
theorem zT {w:World} {b fl id ln:Nat} (h:ag w b [.int .u32 fl,.int .u32 id,.int .u64 ln] 62):
 ∀W,Kp none' w W→(Instr.loadAt 62 (.pointer (some ⟨b,0,none⟩))).run Tryz.prog W=.ok (.agg #[.int .u32 fl,.int .u32 id,.int .u64 ln]) W:=fun W hK=>
 run_loadAt_mid W b 0 62 [.int .u32 fl,.int .u32 id,.int .u64 ln] _ (fun j v hv=>by rw[Nat.zero_add];exact hK.cell (h.cell j hv) (fun x=>x)) Tryz.underlying62 rfl fZ
def OH (w:World) (g2 p room:Nat) (G:Nat→Prop) (Q:List It) (r fl id ln:Nat):Prop:=
 ∀W,Kp (fun b=>b=g2) w W→Calls Tryz.prog 320 #[.pointer (some ⟨p,0,none⟩),.agg #[.int .u64 r,.int .u32 fl,.int .u32 id,.int .u64 ln]] W fun e w'=>e=.returned (.bool true)∧∃F',Rg w' F' p room (Q++[⟨r,⟨fl,id,ln⟩⟩])∧Kp G W w'∧Nw W G F'
def wX (w:World) (qb g1 c1 g2 c2 n room m p k:Nat) (G:Nat→Prop) (Q:List It) (bs':List Nat) (r fl id ln:Nat) (e:Ending) (w':World):Prop:=
 e=.returned (.tuple #[.int .i64 k,.bool true])∧ag w' qb [.slice (some ⟨g1,0,none⟩) n c1,.slice (some ⟨g2,0,none⟩) n c2,.int .i64 room,.int .i64 ((m:Int)+1)] 364∧w'.ownsRow 0 22 1 (.slice (some ⟨g2,0,none⟩) n c2) n (bs'.map lG)∧
  (∃F',Rg w' F' p room (Q++[⟨r,⟨fl,id,ln⟩⟩])∧Nw w G F')∧Kp (fun b=>b=qb∨b=g2∨G b) w w'
theorem Bd {w W4 W5 W6:World} {qb g1 c1 g2 c2 n room m p k:Nat} {G F':Nat→Prop} {Q:List It} {bs':List Nat} {r fl id ln:Nat} (hg2:g2≠qb∧¬G g2) (hG:¬G qb)
 (hb:ag W4 qb [.slice (some ⟨g1,0,none⟩) n c1,.slice (some ⟨g2,0,none⟩) n c2,.int .i64 room,.int .i64 m] 364) (ho:W4.ownsRow 0 22 1 (.slice (some ⟨g2,0,none⟩) n c2) n (bs'.map lG)) (hk4:Kp (fun b=>b=g2) w W4)
 (hk5:Kp none' W4 W5) (hr:Rg W6 F' p room (Q++[⟨r,⟨fl,id,ln⟩⟩])) (hk6:Kp G W5 W6) (hn:Nw W5 G F') (hF:¬F' qb):
 wX w qb g1 c1 g2 c2 n room m p k G Q bs' r fl id ln (.returned (.tuple #[.int .i64 k,.bool true])) (W6.setCell ⟨qb,3,none⟩ (.int .i64 ((m:Int)+1))):=by
 have hs:Kp (fun b=>b=qb) W6 (W6.setCell ⟨qb,3,none⟩ (.int .i64 ((m:Int)+1))):=(Kp.refl (fun b=>b=qb) W6).set (p:=⟨qb,3,none⟩) (.inl rfl) _;have h5:w.heap.size≤W5.heap.size:=by have:=hk4.size;have:=hk5.size;omega
 refine⟨rfl,(((hb.kp hk5 (fun x=>x)).kp hk6 hG).set 3 _),aK (aK (aK ho hk5 (fun _ _ x=>x)) hk6 (fun b hb x=> ?_)) hs (fun b hb x=> ?_),⟨F',hr.kp hs (fun b hb e=>hF (e▸hb)),fun b hb=> ?_⟩,?_⟩
 ·have:g2=b:=Option.some.inj hb;exact hg2.2 (this▸x)
 ·have:g2=b:=Option.some.inj hb;exact hg2.1 (this.trans x)
 ·rcases hn b hb with h|h
  ·exact .inl h
  ·exact .inr (by omega)
 ·exact(((hk4.mono (fun b _ e=>.inr (.inl e))).trans (hk5.mono (fun _ _ x=>x.elim))).trans (hk6.mono (fun b _ e=>.inr (.inr e)))).trans (hs.mono (fun b _ e=>.inl e))
end Go.Proofs.YtjiehhlghjnfhaaGreatDoor
