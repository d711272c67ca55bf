/- Walks of layer 33: Take. -/
import Derived.Test.YtjiehhlghjnfhaaGreatDoorMTopLineF1
import Derived.Deep.MidRow
import Derived.Deep.Cut
set_option linter.unusedVariables false
set_option linter.unusedSimpArgs false
set_option maxHeartbeats 4000000
namespace Go.Proofs.YtjiehhlghjnfhaaGreatDoor
open Go Go.RowKit Go.Shelf
theorem uh {P:Program} {f:Func} {s u v:Tmp} {ty:TypeId} (hf:f.results=#[.cell s ty,.tmp u,.tmp v]) {R:Ending→World→Prop} {W:World} {g:Nat} {cs:List Value} {t:TypeId} {T:Array Value} (hb:ag W g cs t) (d:TypeDesc) (hu:P.underlying ty=some d) (hd:(match d with| .struct _| .array _ _=>true|_=>false)=true)
 (hi:(P.info? ty).map (·.size)=some cs.length) (h2:T.getD s undef=.pointer (some ⟨g,0,none⟩)) (hR:R (.returned (.tuple #[.agg cs.toArray,T.getD u undef,T.getD v undef])) W):bodyPost P f R Exit.ret {tmps:=T,defers:=[]} W:=by
 refine bodyPost_ret (v:=.tuple #[.agg cs.toArray,T.getD u undef,T.getD v undef]) ?_ rfl hR;have h2':T[s]?.getD undef=.pointer (some ⟨g,0,none⟩):=by simpa using h2
 simp[results,hf,h2',asAddr,run_loadVar_row W g t ty cs.toArray (0,0) d hb.is hu hd (by rw[List.size_toArray];exact hi)]
theorem ik {P:Program} {ops:Array Oper} {rest:List Oper} {op:Oper} {a:Act} {Q:Exit→Act→World→Prop} (hgd:op.guard=none) (ty:TypeId) (x y:Operand) (ho:op.op=.store ty x y) {w:World} {b:Nat} {cs:List Value} {t:TypeId} (hb:ag w b cs t) (vs:List Value) (hl:vs.length=cs.length)
 (hx:a.eval x=.pointer (some ⟨b,0,none⟩)) (hy:a.eval y=.agg vs.toArray) (DC:(P.info? ty).map (·.size)=some vs.length) (h1:vs.all (·.oneCell')=true)
 (h:∀W2,ag W2 b vs t→Kp (fun z=>z=b) w W2→wpList P ops Q rest (a.put op.dst undef) W2):wpList P ops Q (op::rest) a w:=
 fF hgd ty x y ho hb vs hx hy DC hl.symm (List.all_eq_true.1 h1) fun W2 h2 _ hk=>h W2 h2 (hk (fun z=>z=b) w (Kp.refl _ _) (.inl rfl))
def CE:kF:=⟨0,0,0,0,0,0,0⟩
theorem jL:(Tryz.prog.info? 44).map (·.size)=some 7:=by kernel_rfl
theorem J5 (s:ByteArray):bl (s.extract 0 10++⟨#[0,0]⟩++s.extract 12 20)=Du (bl s):=by
 rw[gK,gK,kY,kY];unfold Du;rw[List.drop_zero,List.append_assoc];rfl
set_option maxRecDepth 100000 in
theorem J6 (s:ByteArray) (hs:s.size≤100000) (he:bZ (bl s)≠0) (w:World):Calls Tryz.prog 46 #[.string s] w fun e w'=>e=.returned (.tuple #[.agg (fO CE).toArray,.string ⟨#[]⟩,.int .i64 (bZ (bl s))])∧Kp none' w w':=by
 have HB0:=ae (ag.new w (fO CE) 44);have aB:=ae ((Kp.refl none' w).alloc (.cells (fO CE).toArray 44));by_cases h0:s.size<28
 ·have e0:bZ (bl s)=2:=by unfold bZ;rw[if_pos (by rw[aO];exact h0)]
  rw[e0];have hi:(s.size:Int)<28:=by omega
  clear he
  go_enter Tryz.func46,Tryz.ntmps46
  go_wp2_with fail
  exact uh (by exact rfl) HB0.out _ Tryz.underlying44 rfl jL (by exact rfl) ⟨rfl,aB.out⟩
 ·have hi:¬(s.size:Int)<28:=by omega
  have HF:=ae (fun W=>U_ s (by omega) (by omega) W);by_cases h1:t_ (bl s)=false
  ·have e0:bZ (bl s)=3:=by unfold bZ;rw[if_neg (by rw[aO];exact h0),if_pos h1]
   rw[e0];rw[h1]at HF;clear he h1 e0
   go_enter Tryz.func46,Tryz.ntmps46
   go_wp2_with fail
   refine(HF.out _).mono ?_;rintro e w1 ⟨rfl,hk1⟩;have ax:=ae (aB.out.trans hk1);have hb1:=HB0.out.kp hk1 (fun x=>x);have HB1:=ae hb1;clear hk1 hb1 HB0 aB
   go_wp2_with(refine ik rfl 44 (.tmp 2) (.tmp 15) rfl HB1.out (fO CE) rfl rfl rfl jL rfl ?_;intro W2 hb2 hk2;have HB2:=ae hb2;have ak:Hid (Kp none' w W2):=ae (ax.out.then hk2 (fun i h1 h2=>by omega));clear hb2 hk2)
   exact uh (by exact rfl) HB2.out _ Tryz.underlying44 rfl jL (by exact rfl) ⟨rfl,ak.out⟩
  ·have h1t:t_ (bl s)=true:=by cases hh:t_ (bl s);exact absurd hh h1;rfl
   have h2:hf (bl s) 10≠mf (Du (bl s)):=fun e=>he (by unfold bZ;rw[if_neg (by rw[aO];exact h0),if_neg h1,if_pos e])
   have e0:bZ (bl s)=11:=by unfold bZ;rw[if_neg (by rw[aO];exact h0),if_neg h1,if_neg h2]
   rw[e0];rw[h1t]at HF;have HH:Hid (∀W,Calls Tryz.prog 83 #[.string s,.int .i64 10] W fun e w'=>e=.returned (.int .u16 (hf (bl s) 10:Nat))∧Kp none' W w'):=ae (fun W=>lq s 10 (by omega) (by omega) W);have hts:=J5 s;have hsz:(s.extract 0 10).size=10:=by rw[←aO,kY,List.length_take,List.length_drop,aO];omega
   have hsz2:(s.extract 12 20).size=8:=by rw[←aO,kY,List.length_take,List.length_drop,aO];omega
   have x1:=gW (P:=Tryz.prog) (s.extract 0 10) ⟨#[0,0]⟩ (by rw[hsz];show 10+2≤_;decide);have hsz3:(s.extract 0 10++⟨#[0,0]⟩:ByteArray).size=12:=by rw[←aO,gK,List.length_append,aO,hsz];rfl
   have x2:=gW (P:=Tryz.prog) (s.extract 0 10++⟨#[0,0]⟩) (s.extract 12 20) (by rw[hsz3,hsz2];decide);obtain⟨T,hT⟩:∃T,s.extract 0 10++⟨#[0,0]⟩++s.extract 12 20=T:=⟨_,rfl⟩
   rw[hT]at hts x2;have hTs:T.size=20:=by rw[←hT,←aO,gK,List.length_append,aO,aO,hsz3,hsz2]
   have hin:=fun W=>NV T (by omega) W
   rw[hts]at hin;have HN:=ae (fun W=>aT (hin W));have hn:¬((hf (bl s) 10:Nat):Int)=((mf (Du (bl s)):Nat):Int):=by omega
   have adw:=mg (bl s) 10;obtain⟨p,hp⟩:∃p,hf (bl s) 10=p:=⟨_,rfl⟩
   obtain⟨q,hq⟩:∃q,mf (Du (bl s))=q:=⟨_,rfl⟩
   rw[hp]at hn HH adw;rw[hq]at hn HN;have b10:(10:Int)≤s.size:=by omega
   have b20:(20:Int)≤s.size:=by omega
   clear he h1 e0 h1t h2 hts hsz hsz2 hsz3 hT hTs hin hp hq
   go_enter Tryz.func46,Tryz.ntmps46
   go_wp2_with fail
   refine(HF.out _).mono ?_;rintro e w1 ⟨rfl,hk1⟩;have ax:=ae (aB.out.trans hk1);have HB1:=ae (HB0.out.kp hk1 (fun x=>x));clear hk1 HB0 aB
   go_wp2_with fail
   refine af [] [0,1,2,3,4,5,6,7,8] 9 (by kernel_rfl) (by kernel_rfl) (fun c a d u w h=>by cases d<;>exact h) ?_;simp only[pick,bn];show aA _ _ _ _ _ _
   repeat((first
        |refine ah (by exact rfl) (by as_aux_lemma=>intro W hK;go_simp;exact rfl) ?_
        |refine ai (by exact rfl) ?_
        |refine au (by exact rfl) (by as_aux_lemma=>intro W;go_simp;exact⟨rfl,rfl⟩) (by intro W hK;with_reducible first|exact HH.out W|exact HN.out W) ?_);simp only[Act.put,aY])
   show ∀W,_→wpList _ _ _ _ _ _
   intro W2 hK2;have ak:=ae (ax.out.trans hK2);have HB2:=ae (HB1.out.kp hK2 (fun x=>x));clear hK2 ax HB1
   go_wp2_with(refine ik rfl 44 (.tmp 2) (.tmp 27) rfl HB2.out (fO CE) rfl rfl rfl jL rfl ?_;intro W3 hb3 hk3;have HB3:=ae hb3;have aF:Hid (Kp none' w W3):=ae (ak.out.then hk3 (fun i h1 h2=>by omega));clear hb3 hk3)
   exact uh (by exact rfl) HB3.out _ Tryz.underlying44 rfl jL (by exact rfl) ⟨rfl,aF.out⟩
theorem qL {l:List UInt8} (h:bZ l=0):28≤l.length∧t_ l=true∧hf l 10=mf (Du l):=by
 unfold bZ at h;split at h
 ·cases h
 ·split at h
  ·cases h
  ·split at h
   ·rename_i h1 h2 h3
    exact⟨by omega,by cases hh:t_ l;exact absurd hh h2;rfl,h3⟩
   ·cases h
end Go.Proofs.YtjiehhlghjnfhaaGreatDoor
namespace Go.Proofs.YtjiehhlghjnfhaaGreatDoor
open Go Go.RowKit
variable {P:Program} {ops:Array Oper} {Q:Exit→Act→World→Prop} {md:Region.Mode}
theorem nX.later {w0 w1:World} {o:Oper} {v:Value} {a:Act} (hy:nX P ops w0 o v a) (hk:Kp none' w0 w1):nX P ops w1 o v a:=by
 rcases hy with⟨hw,hv⟩|h
 ·exact .inl ⟨hw,fun w k=>hv w (hk.trans k)⟩
 ·exact .inr h
theorem eG.later {w0 w1:World} {C C':Act→Prop} (hk:Kp none' w0 w1) (hC:∀a,C a→C' a):∀(R:List Nat) (a:Act),eG P ops w0 C R a→eG P ops w1 C' R a
 | [],a,h=>hC a h
 |_::R,_,⟨o,v,h0,h1,h2⟩=>⟨o,v,h0,h1.later hk,eG.later hk hC R _ h2⟩
theorem eG.put {w0:World} {C:Act→Prop} {s:Nat} {os:Oper} (hos:ops[s]? =some os) (hsel:∀(j:Nat) (o:Oper) cs b,ops[j]? =some o→o.op≠.select cs b) (v:Value):∀(R:List Nat) (a:Act),
 (∀p∈R,∀op,ops[p]? =some op→op.apart ops os=true)→eG P ops w0 (fun a'=>C (a'.put os.dst v)) R a→eG P ops w0 C R (a.put os.dst v)
 | [],_,_,h=>h
 |p::R,a,hap,⟨op,vp,h1,h2,h3⟩=>by
  obtain⟨a1,a2,a3⟩:=Oper.apart_spec (hap p List.mem_cons_self op h1);have hsp:=fun cs b=>hsel p op cs b h1
  refine⟨op,vp,h1,h2.alike (execOp_put op hsp a os.dst v a3) (wanted_put op a os.dst v a3),?_⟩;have:=eG.put hos hsel v R _ (fun q hq=>hap q (List.mem_cons_of_mem _ hq)) h3;rw[Act.put_comm a vp v a2]at this;exact this
theorem IC {w0:World} {n g s:Nat} {os:Oper} {z:List Value} {t:TypeId} {E:List Nat} {T:Act→World→Prop} (hsel:Region.noSelect ops=true) (hs:Dw md ops E n=true) (hc:Region.chainB md ops n=true) (hn:n<ops.size) (hd:Dx md ops=true) (hp:zk md ops n=true)
 (hsn:s<n) (hos:ops[s]? =some os) (hgd:∀l,Region.wanted os l=true) (hal:∀(a:Act) W,(execOp a.eval os).run P W=.ok (.value (.pointer (some ⟨W.heap.size,0,none⟩))) (W.alloc (.cells z.toArray t)))
 (hap:∀i o,i<n→i≠s→ops[i]? =some o→o.apart ops os=true)
 (hC:∀listed a w,listed.size=ops.size→(∀i,i<n→listed.getD i false=true)→(∀t,n≤t→t<ops.size→listed.getD t true=false)→T a w→wpAny P md ops Q g listed a w):
 ∀(m:Nat) (R:List Nat) (listed:Array Bool) (a:Act) (w:World),R.length=m→R.Pairwise (·< ·)→(∀i∈R,i<n∧i≠s)→(∀i,i<n→(listed.getD i true=false↔(i∈R∨i=s)))→(∀e∈E,listed.getD e false=true)→HeadInv md ops n listed→Kp none' w0 w→
  eG P ops w0 (fun a'=>∀b W,w0.heap.size≤b→ag W b z t→Kp none' w0 W→T (a'.put os.dst (.pointer (some ⟨b,0,none⟩))) W) R a→wpAny P md ops Q (m+1+g) listed a w:=by
 intro m;induction m with
 |zero=>
  intro R listed a w hl hpw zn hR hE inv hk h;have hR0:R=[]:=List.eq_nil_of_length_eq_zero hl;subst hR0;rw[show 0+1+g=g+1 by omega];have Qk:listed.getD s true=false:=(hR s hsn).2 (.inr rfl);refine⟨fun h0=> ?_,fun i hi=> ?_⟩
  ·have:s∈Region.ready md ops listed:=by
    refine mem_ready.2 ⟨Qk,os,hos,fun e he hb=> ?_⟩;have hlt:=qJ hd s os hos e he hb;refine jf (by rw[inv.size];omega) (fun h1=> ?_);rcases(hR e.on (by omega)).1 h1 with h2|h2
    ·cases h2
    ·omega
   rw[h0]at this;cases this
  ·have hin:i<n:=by
    rcases Nat.lt_or_ge i n with h1|h1
    ·exact h1
    ·exact absurd hi (ug hs hc hn inv hE _ s rfl hsn Qk i h1)
   obtain⟨hun,oi,hoi,hall⟩:=mem_ready.1 hi;have his:i=s:=by
    rcases(hR i hin).1 hun with h2|h2
    ·cases h2
    ·exact h2
   subst his;unfold Go.wpOp;simp only[hos];rw[if_pos (hgd _)];refine .inl ?_;unfold Oper.wp;rw[hal];have hsz:i<listed.size:=by rw[inv.size];omega
   refine hC _ _ _ (by simp[inv.size]) (fun j hj=> ?_) (fun t' ht ht'=> ?_) (h w.heap.size _ hk.size (ag.new w z t) (hk.alloc _))
   ·by_cases hji:i=j
    ·subst hji;simp[hsz]
    ·refine jf (by simp[inv.size];omega) (fun h1=> ?_);rw[getD_set_ne true hji]at h1;rcases(hR j hj).1 h1 with h2|h2
     ·cases h2
     ·omega
   ·rw[getD_set_ne true (by omega)];exact inv.tail t' ht ht'
 |succ m ih=>
  intro R listed a w hl hpw zn hR hE inv hk h;obtain⟨r0,R',rfl⟩:∃r0 R',R=r0::R':=by cases R with|nil=>simp at hl|cons r R'=>exact⟨_,_,rfl⟩
  have hr0:=zn r0 List.mem_cons_self;have J4:listed.getD r0 true=false:=(hR r0 hr0.1).2 (.inl List.mem_cons_self);have Qk:listed.getD s true=false:=(hR s hsn).2 (.inr rfl);rw[show m+1+1+g=(m+1+g)+1 by omega];refine⟨fun h0=> ?_,fun i hi=> ?_⟩
  ·by_cases hlt0:s<r0
   ·have:s∈Region.ready md ops listed:=by
     refine mem_ready.2 ⟨Qk,os,hos,fun e he hb=> ?_⟩;have hlt:=qJ hd s os hos e he hb;refine jf (by rw[inv.size];omega) (fun h1=> ?_);rcases(hR e.on (by omega)).1 h1 with h2|h2
     ·rcases List.mem_cons.1 h2 with h2|h2
      ·omega
      ·have:=(List.pairwise_cons.1 hpw).1 _ h2;omega
     ·omega
    rw[h0]at this;cases this
   ·have:r0∈Region.ready md ops listed:=by
     obtain⟨o,ho⟩:∃o,ops[r0]? =some o:=⟨_,Array.getElem?_eq_getElem (by omega)⟩
     refine mem_ready.2 ⟨J4,o,ho,fun e he hb=> ?_⟩;have hlt:=qJ hd r0 o ho e he hb;refine jf (by rw[inv.size];omega) (fun h1=> ?_);rcases(hR e.on (by omega)).1 h1 with h2|h2
     ·rcases List.mem_cons.1 h2 with h2|h2
      ·omega
      ·have:=(List.pairwise_cons.1 hpw).1 _ h2;omega
     ·have:=hr0.2;omega
    rw[h0]at this;cases this
  ·have hin:i<n:=by
    rcases Nat.lt_or_ge i n with h1|h1
    ·exact h1
    ·exact absurd hi (ug hs hc hn inv hE _ r0 rfl hr0.1 J4 i h1)
   obtain⟨hun,oi,hoi,hall⟩:=mem_ready.1 hi;by_cases his:i=s
   ·subst his;unfold Go.wpOp;simp only[hos];rw[if_pos (hgd _)];refine .inl ?_;unfold Oper.wp;rw[hal];have hb:=ag.new w z t;have hk1:Kp none' w0 (w.alloc (.cells z.toArray t)):=hk.alloc _;have h1:=eG.put (C:=fun a'=>∀W,ag W w.heap.size z t→Kp none' w0 W→T a' W) hos (Region.noSelect_spec hsel) (.pointer (some ⟨w.heap.size,0,none⟩)) (r0::R') a
     (fun p hp' op hop=>hap p op (zn p hp').1 (zn p hp').2 hop) (eG.later (Kp.refl none' w0) (fun a' hc W h2 h3=>hc w.heap.size W hk.size h2 h3) _ _ h)
    have h2:=eG.later (w1:=w.alloc (.cells z.toArray t)) (C':=fun a'=>∀W,Kp none' (w.alloc (.cells z.toArray t)) W→T a' W) hk1 (fun a' hc W hkW=>hc W (hb.kp hkW (fun x=>x)) (hk1.trans hkW)) _ _ h1;have hsz:i<listed.size:=by rw[inv.size];omega
    have:=BI (g:=g) hsel hs hc hn hd hp (fun listed a w hs1 h1 h2 hcc hkk=>hC listed a w hs1 h1 h2 (hcc w hkk)) (m+1) (r0::R') (listed.setIfInBounds i true) _ _ hl hpw (fun j hj=>(zn j hj).1) (fun j hj=> ?_) (fun e he=>getD_set_true (hE e he)) (inv.set hi hin) (Kp.refl none' _) h2
    ·exact this
    ·by_cases hji:i=j
     ·subst hji;have h3:(listed.setIfInBounds i true).getD i true=true:=by simp[hsz]
      rw[h3];exact⟨fun h=>(by cases h),fun h=>absurd rfl (zn _ h).2⟩
     ·rw[getD_set_ne true hji,hR j hj];exact⟨fun h=>by rcases h with h|h;exact h;omega,fun h=>.inl h⟩
   ·have hm:i∈r0::R':=by
     rcases(hR i hin).1 hun with h2|h2
     ·exact h2
     ·exact absurd h2 his
    obtain⟨pre,post,hpp⟩:=List.append_of_mem hm;rw[hpp]at h hpw hR zn hl;have hpre:∀p∈pre,p<i:=fun p hp=>(List.pairwise_append.1 hpw).2.2 p hp i List.mem_cons_self
    have hpost:∀p∈post,i<p:=fun p hp=>(List.pairwise_cons.1 (List.pairwise_append.1 hpw).2.1).1 p hp
    obtain⟨v,e1,e2⟩:=eG.out hoi (Region.noSelect_spec hsel) post pre a (fun p hp' op hop=>zl hp p i op oi (hpre p hp') hin hop hoi (fun e he hb heq=>by
     have h1:=hall e he hb;have h2:=(hR p (zn p (List.mem_append_left _ hp')).1).2 (.inl (List.mem_append_left _ hp'))
     rw[heq,getD_both h2]at h1;cases h1)) h
    have hsub:(pre++post).Sublist (pre++i::post):=List.Sublist.append_left (List.sublist_cons_self _ _) _;refine e1.wpOp hoi hk (fun w' hk'=>ih (pre++post) _ _ w' (by simp at hl ⊢;omega) (hpw.sublist hsub) (fun j hj=>zn j (hsub.subset hj)) (fun j hj=> ?_) (fun e he=>getD_set_true (hE e he)) (inv.set hi hin) hk' e2);by_cases hji:i=j
    ·subst hji;have h1:(listed.setIfInBounds i true).getD i true=true:=by
      have:i<listed.size:=by rw[inv.size];omega
      simp[this]
     rw[h1];refine⟨fun h=>(by cases h),fun h=> ?_⟩;rcases h with h|h
     ·rcases List.mem_append.1 h with h|h
      ·have:=hpre _ h;omega
      ·have:=hpost _ h;omega
     ·exact absurd h his
    ·rw[getD_set_ne true hji,hR j hj];constructor
     ·rintro(h|h)
      ·rcases List.mem_append.1 h with h|h
       ·exact .inl (List.mem_append_left _ h)
       ·rcases List.mem_cons.1 h with h|h
        ·omega
        ·exact .inl (List.mem_append_right _ h)
      ·exact .inr h
     ·rintro(h|h)
      ·exact .inl (hsub.subset h)
      ·exact .inr h
theorem qM {w0:World} {C:Act→Prop} {r:List Oper} {o:Oper} {a:Act} (hw:Region.wanted o (yielded ops a.tmps)=true) (t:TypeId) (parts:Array (Nat×Operand)) (ho:o.op=.build t parts) (v:Value)
 (h1:∀W,(Instr.build t (parts.map fun(i,x)=>(i,a.eval x))).run P W=.ok v W) (h2:aA P ops w0 C r (a.put o.dst v)):aA P ops w0 C (o::r) a:=
 ⟨v,.inl ⟨hw,fun W _=>.inl (by unfold execOp;simp only[ho,Sem.run_bind,h1,Result.andThen_ok,Sem.run_pure])⟩,h2⟩
theorem sG {w0:World} {b:Nat} {cs:List Value} {t:TypeId} (h:ag w0 b cs t) {ty:TypeId} (d:TypeDesc) (hu:P.underlying ty=some d) (hd:d.isRow=true) (hi:(P.info? ty).map (·.size)=some cs.length)
 {o:Oper} {x:Operand} {a:Act} (ho:o.op=.load ty x) (hx:a.eval x=.pointer (some ⟨b,0,none⟩)):∀W,Kp none' w0 W→(execOp a.eval o).run P W=.ok (.value (.agg cs.toArray)) W:=fun W hK=>by
 have h2:=run_loadAt_mid W b 0 ty cs d (fun j v hv=>by rw[Nat.zero_add];exact(h.kp hK (fun x=>x)).cell j hv) hu hd hi;unfold execOp;simp only[ho,hx,Sem.run_bind,Sem.run_pure,Result.andThen_ok,h2]
def Ql (md:Region.Mode) (ops:Array Oper) (K:List Nat) (s n:Nat):Bool:=
 Region.noSelect ops&&decide (n<ops.size)&&Dw md ops [] n&&Region.chainB md ops n&&Dx md ops&&zk md ops n&&sortedB K&&K.all (fun k=>decide (k<n)&&decide (k≠s))&&
 ((List.range n).all fun i=>K.contains i||decide (i=s))&&decide (s<n)&&Region.seqB md ops (ops.size-n) n (m_ ops n)&&decide (K.length+1=n)&&
 ((List.range n).all fun i=>decide (i=s)||match ops[i]?,ops[s]? with|some o,some os=>o.apart ops os|_,_=>true)
theorem AX {id:Nat} {a:Act} {w:World} {l:List Oper} (K:List Nat) (s n:Nat) (z:List Value) (t:TypeId) {os:Oper} (hm:P.follows .mixedOrders=true) (hB:(Ql .any l.toArray K s n&&K.all (fun k=>decide (k<l.length)))=true)
 (hos:l[s]? =some os) (hgd:os.guard=none) (hal:∀(a:Act) W,(execOp a.eval os).run P W=.ok (.value (.pointer (some ⟨W.heap.size,0,none⟩))) (W.alloc (.cells z.toArray t)))
 (h:aA P l.toArray w (fun a'=>∀b W,w.heap.size≤b→ag W b z t→Kp none' w W→wpList P l.toArray Q (l.drop n) (a'.put os.dst (.pointer (some ⟨b,0,none⟩))) W) (pick l K) a):(Code.region id l.toArray true).wp P Q a w:=by
 simp only[Ql,Bool.and_eq_true,decide_eq_true_eq]at hB;obtain⟨⟨⟨⟨⟨⟨⟨⟨⟨⟨⟨⟨⟨b1,b2⟩,b3⟩,b4⟩,b5⟩,b6⟩,b7⟩,b8⟩,b9⟩,b10⟩,b11⟩,b12⟩,b13⟩,bK⟩:=hB;have hsz:l.toArray.size=l.length:=by simp
 have aaZ:l.toArray[s]? =some os:=by rw[List.getElem?_toArray];exact hos
 refine wp_region_any hm ?_;have inv0:HeadInv .any l.toArray n (Array.replicate l.toArray.size false):=by
  refine⟨by simp,fun j oj hj hl e he hb=> ?_,fun t ht ht'=> ?_⟩
  ·have hj':j<l.length:=by have:=(Array.getElem?_eq_some_iff.1 hj).1;simpa using this
   simp[hj']at hl
  ·have ht2:t<l.length:=by simpa using ht'
   simp[ht2]
 have hfin:=IC (P:=P) (Q:=Q) (md:=.any) (ops:=l.toArray) (w0:=w) (z:=z) (t:=t) (E:=[]) (g:=l.toArray.size-n) (T:=fun a' W=>wpList P l.toArray Q (l.drop n) a' W) b1 b3 b4 b2 b5 b6 b10 aaZ
  (fun l'=>by unfold Region.wanted;rw[hgd]) hal
  (fun i o hi hne hio=>by
   have h1:=List.all_eq_true.1 b13 i (List.mem_range.2 hi);rw[Bool.or_eq_true]at h1;rcases h1 with h1|h1
   ·exact absurd (of_decide_eq_true h1) hne
   ·simpa[hio,aaZ]using h1)
  (fun listed a'' w' hs h1 h2 hcc=>by
   have hcan:listed=m_ l.toArray n:=by
    apply Array.ext
    ·simp[m_,hs]
    ·intro i hi1 hi2;have hil:i<l.toArray.size:=by rw[←hs];exact hi1
     simp only[m_,List.map_toArray,List.getElem_toArray,List.getElem_map,List.getElem_range];by_cases hin:i<n
     ·have:=h1 i hin;simp[hi1]at this;rw[this,decide_eq_true hin]
     ·have:=h2 i (by omega) hil;simp[hi1]at this;rw[this,decide_eq_false hin]
   subst hcan;have hdl:(l.drop n).length=l.toArray.size-n:=by simp
   have:=wpAny_of_seq (P:=P) (md:=.any) (ops:=l.toArray) (Q':=Q) (l.drop n) n (m_ l.toArray n) a'' w' (fun j=>by simp[List.getElem?_drop]) (by rw[hdl];exact b11) hcc
   rwa [hdl]at this) K.length K (Array.replicate l.toArray.size false) a w.drew rfl (qZ K b7) (fun i hi=>by
    have:=List.all_eq_true.1 b8 i hi
    simpa using this) (fun i hi=>by
    have h1:=List.all_eq_true.1 b9 i (List.mem_range.2 hi);have hi2:i<l.length:=by omega
    simp[hi2]at h1 ⊢
    exact h1) (fun e he=>by cases he) inv0 (Kp.refl none' w).drew (rq K a bK h)
 rw[show K.length+1+(l.toArray.size-n)=l.toArray.size by omega]at hfin;exact hfin
end Go.Proofs.YtjiehhlghjnfhaaGreatDoor
namespace Go.Proofs.YtjiehhlghjnfhaaGreatDoor
open Go Go.RowKit Go.Shelf
set_option maxRecDepth 100000 in
theorem pG (s:ByteArray) (hs:s.size≤100000) (he:bZ (bl s)=0) (w:World):Calls Tryz.prog 46 #[.string s] w fun e w'=>e=.returned (.tuple #[.agg (fO (dV (bl s))).toArray,.string (s.extract 28 s.size),.int .i64 0])∧Kp none' w w':=by
 obtain⟨h28,hfo,hsu⟩:=qL he;rw[aO]at h28;have HB0:=ae (ag.new w (fO CE) 44);have aB:=ae ((Kp.refl none' w).alloc (.cells (fO CE).toArray 44));have hi:¬(s.size:Int)<28:=by omega
 have HF:=ae (fun W=>U_ s (by omega) (by omega) W);rw[hfo]at HF;have HH:Hid (∀W,Calls Tryz.prog 83 #[.string s,.int .i64 10] W fun e w'=>e=.returned (.int .u16 (hf (bl s) 10:Nat))∧Kp none' W w'):=ae (fun W=>lq s 10 (by omega) (by omega) W);have xB:Hid (∀W,Calls Tryz.prog 83 #[.string s,.int .i64 4] W fun e w'=>e=.returned (.int .u16 (hf (bl s) 4:Nat))∧Kp none' W w'):=ae (fun W=>lq s 4 (by omega) (by omega) W);have adx:Hid (∀W,Calls Tryz.prog 83 #[.string s,.int .i64 20] W fun e w'=>e=.returned (.int .u16 (hf (bl s) 20:Nat))∧Kp none' W w'):=ae (fun W=>lq s 20 (by omega) (by omega) W);have ady:Hid (∀W,Calls Tryz.prog 83 #[.string s,.int .i64 22] W fun e w'=>e=.returned (.int .u16 (hf (bl s) 22:Nat))∧Kp none' W w'):=ae (fun W=>lq s 22 (by omega) (by omega) W);have adz:Hid (∀W,Calls Tryz.prog 87 #[.string s,.int .i64 12] W fun e w'=>e=.returned (.int .u32 (wd (bl s) 12:Nat))∧Kp none' W w'):=ae (fun W=>U5 s 12 (by omega) (by omega) W);have adA:Hid (∀W,Calls Tryz.prog 87 #[.string s,.int .i64 16] W fun e w'=>e=.returned (.int .u32 (wd (bl s) 16:Nat))∧Kp none' W w'):=ae (fun W=>U5 s 16 (by omega) (by omega) W);have oG:Hid (dV (bl s)=⟨s[1].toNat/4,hf (bl s) 4,s[8].toNat,wd (bl s) 12,wd (bl s) 16,hf (bl s) 20,hf (bl s) 22⟩):=by
  show _=_;unfold dV;rw[gd s 1 (by omega),gd s 8 (by omega)]
 have hcl:=fun W=>YY (s.extract 28 s.size) (by rw[←aO,kY,List.length_take,List.length_drop,aO];omega) W
 have HC:=ae hcl;have hts:=J5 s;have hsz:(s.extract 0 10).size=10:=by rw[←aO,kY,List.length_take,List.length_drop,aO];omega
 have hsz2:(s.extract 12 20).size=8:=by rw[←aO,kY,List.length_take,List.length_drop,aO];omega
 have x1:=gW (P:=Tryz.prog) (s.extract 0 10) ⟨#[0,0]⟩ (by rw[hsz];show 10+2≤_;decide);have hsz3:(s.extract 0 10++⟨#[0,0]⟩:ByteArray).size=12:=by rw[←aO,gK,List.length_append,aO,hsz];rfl
 have x2:=gW (P:=Tryz.prog) (s.extract 0 10++⟨#[0,0]⟩) (s.extract 12 20) (by rw[hsz3,hsz2];decide);obtain⟨T,hT⟩:∃T,s.extract 0 10++⟨#[0,0]⟩++s.extract 12 20=T:=⟨_,rfl⟩
 rw[hT]at hts x2;have hTs:T.size=20:=by rw[←hT,←aO,gK,List.length_append,aO,aO,hsz3,hsz2]
 have hin:=fun W=>NV T (by omega) W
 rw[hts,←hsu]at hin;have HN:=ae (fun W=>aT (hin W));have g1:=UInt8.toNat_lt s[1];have g8:=UInt8.toNat_lt s[8];have z1:(1:Int)<s.size:=by omega
 have z8:(8:Int)<s.size:=by omega
 rw[oG.out];obtain⟨n1,e1⟩:∃n1,s[1].toNat=n1:=⟨_,rfl⟩
 obtain⟨n8,e8⟩:∃n8,s[8].toNat=n8:=⟨_,rfl⟩
 rw[e1]at g1 ⊢;rw[e8]at g8 ⊢;have m1:((n1/4:Nat):Int)=(n1:Int)/4:=by omega
 have b10:(10:Int)≤s.size:=by omega
 have b20:(20:Int)≤s.size:=by omega
 have b28:(28:Int)≤s.size:=by omega
 generalize hf (bl s) 10=p at*;generalize hf (bl s) 4=p4 at*;generalize hf (bl s) 20=Si at*;generalize hf (bl s) 22=Sj at*;generalize wd (bl s) 12=p12 at*;generalize wd (bl s) 16=p16 at*;have FV:Hid (∀(W:World),ag (W.alloc (.cells #[.int .u8 ((n1:Int)/4),.int .u16 p4,.int .u8 n8,.int .u32 p12,.int .u32 p16,.int .u16 Si,.int .u16 Sj] 44)) W.heap.size [.int .u8 ((n1:Int)/4),.int .u16 p4,.int .u8 n8,.int .u32 p12,.int .u32 p16,.int .u16 Si,.int .u16 Sj] 44):=ae (fun W=>ag.new W [.int .u8 ((n1:Int)/4),.int .u16 p4,.int .u8 n8,.int .u32 p12,.int .u32 p16,.int .u16 Si,.int .u16 Sj] 44);clear he hfo hsu hts hsz hsz2 hsz3 hT hTs hin hcl oG
 go_enter Tryz.func46,Tryz.ntmps46
 go_wp2_with fail
 refine(HF.out _).mono ?_;rintro e w1 ⟨rfl,hk1⟩;have ax:=ae (aB.out.trans hk1);have HB1:=ae (HB0.out.kp hk1 (fun x=>x));clear hk1 HB0 aB
 go_wp2_with fail
 refine af [] [0,1,2,3,4,5,6,7,8] 9 (by kernel_rfl) (by kernel_rfl) (fun c a d u w h=>by cases d<;>exact h) ?_;simp only[pick,bn];show aA _ _ _ _ _ _
 repeat((first
  |refine ah (by exact rfl) (by as_aux_lemma=>intro W hK;go_simp;exact rfl) ?_
  |refine ai (by exact rfl) ?_
  |refine au (by exact rfl) (by as_aux_lemma=>intro W;go_simp;exact⟨rfl,rfl⟩) (by intro W hK;with_reducible first|exact HH.out W|exact HN.out W) ?_);simp only[Act.put,aY])
 show ∀W,_→wpList _ _ _ _ _ _
 intro W2 hK2;have ak:=ae (ax.out.trans hK2);have HB2:=ae (HB1.out.kp hK2 (fun x=>x));clear hK2 ax HB1
 go_wp2_with fail
 refine AX [0,1,2,3,4,5,6,7,8,9,10,11,12,13,14,15] 16 17 (fO CE) 44 (by kernel_rfl) (by kernel_rfl) rfl rfl (fun _ _=>by kernel_rfl) ?_;simp only[pick,bn];show aA _ _ _ _ _ _
 repeat((first
  |refine qM (by exact rfl) 44 _ rfl (.agg #[.int .u8 ((n1:Int)/4),.int .u16 p4,.int .u8 n8,.int .u32 p12,.int .u32 p16,.int .u16 Si,.int .u16 Sj]) (fun _=>by kernel_rfl) ?_
  |refine ah (by exact rfl) (by as_aux_lemma=>intro W hK;go_simp;exact rfl) ?_
  |refine ai (by exact rfl) ?_
  |refine au (by exact rfl) (by as_aux_lemma=>intro W;go_simp;exact⟨rfl,rfl⟩) (by intro W hK;with_reducible first|exact xB.out W|exact adz.out W|exact adA.out W|exact adx.out W|exact ady.out W) ?_);simp only[Act.put,aY])
 show ∀b W,_→_→_→wpList _ _ _ _ _ _
 simp only[Act.put,aY];intro b3 W3 hb3 hB3 hK3;have HB3:=ae hB3;have aF:=ae (ak.out.trans hK3);have HR3:=ae (HB2.out.kp hK3 (fun x=>x));have hne:w.heap.size≠b3:=by have:=HB2.out.lt;omega
 have hle:w.heap.size≤b3:=by have:=ak.out.size;omega
 clear hB3 hK3 hb3 ak HB2
 go_wp2_with(refine ik rfl 44 (.tmp 5) (.tmp 43) rfl HB3.out [.int .u8 ((n1:Int)/4),.int .u16 p4,.int .u8 n8,.int .u32 p12,.int .u32 p16,.int .u16 Si,.int .u16 Sj] rfl rfl rfl jL rfl ?_;intro W4 hb4 hk4;have HB4:=ae hb4;have HR4:=ae (HR3.out.kp hk4 hne);have aH:Hid (Kp none' w W4):=ae (aF.out.then hk4 (fun i h1 h2=>by omega));clear hb4 hk4 HB3 HR3 aF)
 refine af [] [0,1,2,3] 4 (by kernel_rfl) (by kernel_rfl) (fun c a d u w h=>by cases d<;>exact h) ?_;simp only[pick,bn];show aA _ _ _ _ _ _
 repeat((first
  |refine ah (by exact rfl) (sG HB4.out _ Tryz.underlying44 rfl jL rfl rfl) ?_
  |refine ah (by exact rfl) (by as_aux_lemma=>intro W hK;go_simp;exact rfl) ?_
  |refine ai (by exact rfl) ?_
  |refine au (by exact rfl) (by as_aux_lemma=>intro W;go_simp;exact⟨rfl,rfl⟩) (by intro W hK;with_reducible first|exact HC.out W) ?_);simp only[Act.put,aY])
 show ∀W,_→wpList _ _ _ _ _ _
 intro W5 hK5;have a_:=ae (aH.out.trans hK5);have FW:=ae (HR4.out.kp hK5 (fun x=>x));clear hK5 aH HR4 HB4
 go_wp2_with(refine ik rfl 44 (.tmp 2) (.tmp 44) rfl FW.out [.int .u8 ((n1:Int)/4),.int .u16 p4,.int .u8 n8,.int .u32 p12,.int .u32 p16,.int .u16 Si,.int .u16 Sj] rfl rfl rfl jL rfl ?_;intro W6 hb6 hk6;have bV:=ae hb6;have b_:Hid (Kp none' w W6):=ae (a_.out.then hk6 (fun i h1 h2=>by omega));clear hb6 hk6 FW a_)
 refine uh (by exact rfl) bV.out _ Tryz.underlying44 rfl jL (by exact rfl) ⟨?_,b_.out⟩;simp only[fO,m1];rfl
theorem zq (s:ByteArray) (a b:Nat):(s.extract a b).size=min b s.size-a:=by rw[←aO,kY,List.length_take,List.length_drop,aO];omega
theorem J7 (s:ByteArray) (k x:Nat):bl (s.extract 0 k++tx (hvL [x])++s.extract (k+2) s.size)=cutAt (bl s) k x:=by
 rw[gK,gK,kY,kY,iI];unfold cutAt;rw[List.drop_zero,List.append_assoc,List.take_of_length_le (l:=List.drop (k+2) (bl s)) (by rw[List.length_drop,aO];omega)];simp[hvL]
theorem IE (w:World) (x:Nat):Sl (w.alloc (.cells #[.int .u16 (x:Int)] 41)) (.slice (some ⟨w.heap.size,0,none⟩) 1 1) [x].length 1 (vH [x]):=
 ⟨rfl,by show(1:Nat)≤_;omega,_,_,rfl,fun i u hu=>⟨_,0,rfl,by rw[Nat.zero_add];exact(ag.new w (vH [x]) 41).cell i hu⟩⟩
set_option maxRecDepth 100000 in
theorem acf (s:ByteArray) (k x:Nat) (hs:s.size≤100000) (h28:28≤s.size) (hk:k+2≤28) (hx:x<65536) (w:World):Calls Tryz.prog 82 #[.string s,.int .i64 k,.int .u16 x] w fun e w'=>e=.returned (.string (tx (AV (bl s) k x)))∧Kp none' w w':=by
 have Qm:Hid (∀W,Calls Tryz.prog 83 #[.string s,.int .i64 10] W fun e w'=>e=.returned (.int .u16 (hf (bl s) 10:Nat))∧Kp none' W w'):=ae (fun W=>lq s 10 (by omega) (by omega) W);have HHK:=ae (fun W=>lq s k (by omega) (by omega) W);have HU:=ae (fun W=>aT (adv (hf (bl s) 10) (hf (bl s) k) x (mg _ _) (mg _ _) hx W));have acg:GH (hf (bl s) 10) (hf (bl s) k) x<65536:=by unfold GH;omega
 have hcs:=J7 s k x;have hz1:(s.extract 0 k).size=k:=by rw[zq];omega
 have hz2:(tx (hvL [x])).size=2:=by rw[nD,IA];rfl
 have hz3:(s.extract (k+2) s.size).size=s.size-(k+2):=by rw[zq];omega
 have x1:=gW (P:=Tryz.prog) (s.extract 0 k) (tx (hvL [x])) (by omega);have hz4:(s.extract 0 k++tx (hvL [x])).size=k+2:=by rw[←aO,gK,List.length_append,aO,aO];omega
 have x2:=gW (P:=Tryz.prog) (s.extract 0 k++tx (hvL [x])) (s.extract (k+2) s.size) (by omega);obtain⟨T,hT⟩:∃T,s.extract 0 k++tx (hvL [x])++s.extract (k+2) s.size=T:=⟨_,rfl⟩
 rw[hT]at hcs x2;have hTs:T.size=s.size:=by rw[←hT,←aO,gK,List.length_append,aO,aO];omega
 have htop:=acg;obtain⟨y,hy⟩:∃y,GH (hf (bl s) 10) (hf (bl s) k) x=y:=⟨_,rfl⟩
 rw[hy]at htop;have hcs2:=J7 T 10 y;rw[hcs,←hy]at hcs2;have hy1:(T.extract 0 10).size=10:=by rw[zq];omega
 have hy2:(tx (hvL [y])).size=2:=by rw[nD,IA];rfl
 have hy3:(T.extract 12 T.size).size=T.size-12:=by rw[zq];omega
 have y1:=gW (P:=Tryz.prog) (T.extract 0 10) (tx (hvL [y])) (by omega);have hy4:(T.extract 0 10++tx (hvL [y])).size=12:=by rw[←aO,gK,List.length_append,aO,aO];omega
 have y2:=gW (P:=Tryz.prog) (T.extract 0 10++tx (hvL [y])) (T.extract 12 T.size) (by omega);have HX:Hid (∀W v,Sl W v 1 1 (vH [x])→Calls Tryz.prog 84 #[v] W fun e w'=>e=.returned (.string (tx (hvL [x])))∧Kp none' W w'):=ae (fun W v h=>Dy [x] (fun n hn=>by simp at hn;omega) (Nat.zero_lt_one) (by show 1≤_;omega) v W h);have HY:Hid (∀W v,Sl W v 1 1 (vH [y])→Calls Tryz.prog 84 #[v] W fun e w'=>e=.returned (.string (tx (hvL [y])))∧Kp none' W w'):=ae (fun W v h=>Dy [y] (fun n hn=>by simp at hn;omega) (Nat.zero_lt_one) (by show 1≤_;omega) v W h);rw[hy]at HU;have aa0:Hid (tx (AV (bl s) k x)=T.extract 0 10++tx (hvL [y])++T.extract 12 T.size):=by
  show _=_;apply vw
  have:=hcs2;rw[hy]at this;rw[iI];unfold AV;rw[hy];exact this.symm
 rw[aa0.out];have b2:(k:Int)+2≤s.size:=by omega
 have b3:(k:Int)≤s.size:=by omega
 have b4:IntKind.i64.wrap ((k:Int)+2)=(k:Int)+2:=IntWalk.i64_in _ (by omega);have b5:((k:Int)+2).toNat=k+2:=by omega
 have b10:(10:Int)≤T.size:=by omega
 have b12:(12:Int)≤T.size:=by omega
 clear aa0 hcs2 hcs hT hTs hz1 hz2 hz3 hz4 hy1 hy2 hy3 hy4 hy
 go_enter Tryz.func82,Tryz.ntmps82
 go_wp2_with fail
 refine(Qm.out _).mono ?_;rintro e w1 ⟨rfl,hk1⟩;have ax:=ae hk1;clear hk1
 go_wp2_with fail
 refine(HHK.out _).mono ?_;rintro e w2 ⟨rfl,hk2⟩;have ak:=ae (ax.out.trans hk2);clear hk2 ax
 go_wp2_with fail
 refine(HU.out _).mono ?_;rintro e w3 ⟨rfl,hk3⟩;have aF:=ae (ak.out.trans hk3);clear hk3 ak
 go_wp2_with fail
 go_cut [0]from 15 (fun s0 wc=>s0=.string T∧Hid (Kp none' w wc))
 case first=>
  go_region_with (go_at_call 84;refine(HX.out _ _ (by first|exact IE _ x|exact(IE _ x).old (Kp.drew (Kp.refl _ _)))).mono ?_;rintro e w4 ⟨rfl,hk4⟩;have aH:=ae (((aF.out.alloc (.cells #[.int .u16 (x:Int)] 41)).drew).trans hk4);clear hk4)
  all_goals
   go_wp2_with fail
   go_meet
   case rel=>exact⟨rfl,aH⟩
 case rest=>
  obtain⟨rfl,a_⟩:=hcut;clear aF
  go_wp2_with fail
  go_region_with (go_at_call 84;refine(HY.out _ _ (by first|exact IE _ y|exact(IE _ y).old (Kp.drew (Kp.refl _ _)))).mono ?_;rintro e w4 ⟨rfl,hk4⟩;have aH:=ae (((a_.out.alloc (.cells #[.int .u16 (y:Int)] 41)).drew).trans hk4);clear hk4)
  all_goals
   go_wp2
   go_ret
   exact⟨rfl,aH.out⟩
theorem GI {l:List UInt8}:bZ l≠0→bZ l=2∨bZ l=3∨bZ l=11:=by
 unfold bZ;split
 ·exact fun _=>.inl rfl
 ·split
  ·exact fun _=>.inr (.inl rfl)
  ·split
   ·exact fun h=>absurd rfl h
   ·exact fun _=>.inr (.inr rfl)
set_option maxRecDepth 100000 in
theorem Qn (s:ByteArray) (hs:s.size≤100000) (he:jh (bl s)≠0) (w:World):Calls Tryz.prog 44 #[.string s] w fun e w'=>e=.returned (.tuple #[.string ⟨#[]⟩,.int .i64 (jh (bl s))])∧Kp none' w w':=by
 by_cases h0:bZ (bl s)=0
 ·have h28:28≤s.size:=by have:=(qL h0).1;rwa [aO]at this
  have h8:(bl s).getD 8 0=s[8]:=gd s 8 (by omega);have h2:s[8].toNat<2:=by
   unfold jh at he;rw[if_neg (fun h=>h h0),h8]at he;by_cases hh:s[8].toNat<2
   ·exact hh
   ·rw[if_neg hh]at he;exact absurd rfl he
  have e0:jh (bl s)=21:=by unfold jh;rw[if_neg (fun h=>h h0),h8,if_pos h2]
  have HT:=ae (fun W=>pG s hs h0 W);have DF:(dV (bl s)).eX=s[8].toNat:=by unfold dV;rw[h8]
  obtain⟨H,hH⟩:∃H,dV (bl s)=H:=⟨_,rfl⟩
  rw[hH]at HT DF;have hi2:(H.eX:Int)<2:=by rw[DF];omega
  rw[e0];clear he h2 DF hH h8
  go_enter Tryz.func44,Tryz.ntmps44
  go_wp2_with fail
  refine(HT.out _).mono ?_;rintro e w1 ⟨rfl,hk1⟩;have ax:=ae (hk1.alloc (.cells (fO H).toArray 44));clear hk1;simp only[fO]at*
  go_wp2_with fail
  go_ret2
  exact⟨rfl,ax.out⟩
 ·have e0:jh (bl s)=bZ (bl s):=by unfold jh;rw[if_pos h0]
  have HT:=ae (fun W=>J6 s hs h0 W);have hc:=GI h0;rw[e0];obtain⟨c,hcc⟩:∃c,bZ (bl s)=c:=⟨_,rfl⟩
  rw[hcc]at HT hc ⊢;have hc0:¬c=0:=by omega
  clear he h0 e0 hcc hc
  go_enter Tryz.func44,Tryz.ntmps44
  go_wp2_with fail
  refine(HT.out _).mono ?_;rintro e w1 ⟨rfl,hk1⟩;have ax:=ae (hk1.alloc (.cells (fO CE).toArray 44));clear hk1;simp only[fO,CE]at*
  go_wp2_with fail
  go_ret2
  exact⟨rfl,ax.out⟩
theorem Y0 {l:List UInt8} (h:jh l=0):bZ l=0∧2≤(l.getD 8 0).toNat:=by
 unfold jh at h;split at h
 ·rename_i h1;exact absurd h h1
 ·rename_i h1
  have h1:bZ l=0:=Decidable.of_not_not h1;split at h
  ·cases h
  ·exact⟨h1,by omega⟩
set_option maxRecDepth 100000 in
theorem IG (s:ByteArray) (hs:s.size≤100000) (he:jh (bl s)=0) (w:World):Calls Tryz.prog 44 #[.string s] w fun e w'=>e=.returned (.tuple #[.string (tx (lU (bl s))),.int .i64 0])∧Kp none' w w':=by
 obtain⟨h0,h2⟩:=Y0 he;have h28:28≤s.size:=by have:=(qL h0).1;rwa [aO]at this
 have h8:(bl s).getD 8 0=s[8]:=gd s 8 (by omega);rw[h8]at h2;have HT:=ae (fun W=>pG s hs h0 W);have DF:(dV (bl s)).eX=s[8].toNat:=by unfold dV;rw[h8]
 have hge:512≤hf (bl s) 8:=by unfold hf;rw[gd s 8 (by omega)];omega
 have hlt:=mg (bl s) 8;have HH:Hid (∀W,Calls Tryz.prog 83 #[.string s,.int .i64 8] W fun e w'=>e=.returned (.int .u16 (hf (bl s) 8:Nat))∧Kp none' W w'):=ae (fun W=>lq s 8 (by omega) (by omega) W);have hwi:=fun W=>acf s 8 (hf (bl s) 8-256) hs h28 (by omega) (by omega) W
 rw[show((hf (bl s) 8-256:Nat):Int)=((hf (bl s) 8:Nat):Int)-256 by omega]at hwi;have HWI:Hid (∀W,Calls Tryz.prog 82 #[.string s,.int .i64 8,.int .u16 (((hf (bl s) 8:Nat):Int)-256)] W fun e w'=>e=.returned (.string (tx (lU (bl s))))∧Kp none' W w'):=ae hwi;obtain⟨T,hT⟩:∃T,tx (lU (bl s))=T:=⟨_,rfl⟩
 rw[hT]at HWI ⊢;obtain⟨H,hH⟩:∃H,dV (bl s)=H:=⟨_,rfl⟩
 rw[hH]at HT DF;have hi2:¬(H.eX:Int)<2:=by rw[DF];omega
 obtain⟨n,hn⟩:∃n,hf (bl s) 8=n:=⟨_,rfl⟩
 rw[hn]at HH HWI hge hlt;clear he h2 DF hH h8 h0 hwi hT hn
 go_enter Tryz.func44,Tryz.ntmps44
 go_wp2_with fail
 refine(HT.out _).mono ?_;rintro e w1 ⟨rfl,hk1⟩;have ax:=ae (hk1.alloc (.cells (fO H).toArray 44));clear hk1;simp only[fO]at*
 go_wp2_with fail
 refine(HH.out _).mono ?_;rintro e w2 ⟨rfl,hk2⟩;have ak:=ae (ax.out.trans hk2);clear hk2
 go_wp2_with fail
 refine(HWI.out _).mono ?_;rintro e w3 ⟨rfl,hk3⟩;have aF:=ae (ak.out.trans hk3);clear hk3
 go_wp2_with fail
 go_ret2
 exact⟨rfl,aF.out⟩
theorem sH (a b:ByteArray):(a++b).size=a.size+b.size:=by rw[←aO,gK,List.length_append,aO,aO]
theorem zu (l:List Nat):(tx (hvL l)).size=2*l.length:=by rw[nD,IA]
def pA (h:kF) (n:Nat):List Nat:=[17664+h.ds*4,n+28,h.id,0,h.eX*256+17]
def pB (h:kF):List Nat:=[h.s/65536,h.s%65536,h.d/65536,h.d%65536]
def pD (h:kF) (n:Nat):List Nat:=[h.sp,h.p,n+8,0]
theorem Vb (h:kF) (n:Nat):bl (tx (hvL (pA h n))++⟨#[0,0]⟩++tx (hvL (pB h)))=qH h n++([0,0]++vz h):=by
 rw[gK,gK,iI,iI];have e:bl ⟨#[0,0]⟩=[0,0]:=rfl;rw[e];simp only[hvL,pA,pB,qH,vz,List.flatMap_cons,List.flatMap_nil,List.append_nil,List.append_assoc]
theorem Vd (h:kF) (b:ByteArray):tx (hvL (pA h b.size))++tx (hvL [mf (qH h b.size++([0,0]++vz h))])++tx (hvL (pB h))++tx (hvL (pD h b.size))++b=tx (jY h (bl b)):=by
 apply vw
 rw[gK,gK,gK,gK,iI,iI,iI,iI,iI];unfold jY;rw[aO];simp only[hvL,pA,pB,pD,qH,vz,List.flatMap_cons,List.flatMap_nil,List.append_nil,List.append_assoc]
theorem qN (l:List Nat) (hl:∀x∈l,x<65536) (h0:0<l.length) (hn:l.length≤1000) (W:World):Calls Tryz.prog 84 #[.slice (some ⟨W.heap.size,0,none⟩) l.length l.length] (W.alloc (.cells (vH l).toArray 41)) fun e w'=>e=.returned (.string (tx (hvL l)))∧Kp none' W w':=by
 refine(Dy l hl h0 hn _ _ ⟨by simp[vH],by omega,_,_,rfl,fun i u hu=>⟨_,0,rfl,by rw[Nat.zero_add];exact(ag.new W (vH l) 41).cell i hu⟩⟩).mono ?_;rintro e w' ⟨h1,h2⟩;exact⟨h1,((Kp.refl none' W).alloc _).trans h2⟩
set_option maxRecDepth 100000 in
theorem Qo (h:kF) (hh:h.Fit) (hd:h.ds≤63) (b:ByteArray) (hb:b.size≤65507) (w:World):
 Calls Tryz.prog 45 #[.agg (fO h).toArray,.string b] w fun e w'=>e=.returned (.tuple #[.string (tx (jY h (bl b))),.int .i64 0])∧Kp none' w w':=by
 have q1:=hh.ok.s;have q2:=hh.ok.d;have q3:=hh.ok.p;have q4:=hh.id;have q5:=hh.eX;have q6:=hh.sp;have hA:=qN (pA h b.size) (fun x hx=>by simp only[pA,List.mem_cons,List.not_mem_nil,or_false]at hx;omega) (by show 0<5;decide) (by show 5≤_;decide);have hB:=qN (pB h) (fun x hx=>by simp only[pB,List.mem_cons,List.not_mem_nil,or_false]at hx;omega) (by show 0<4;decide) (by show 4≤_;decide);have hD:=qN (pD h b.size) (fun x hx=>by simp only[pD,List.mem_cons,List.not_mem_nil,or_false]at hx;omega) (by show 0<4;decide) (by show 4≤_;decide);have hT:=Vb h b.size;have hP:=Vd h b;have sA:=zu (pA h b.size);have sB:=zu (pB h);have sD:=zu (pD h b.size);obtain⟨I,hI⟩:∃I,mf (qH h b.size++([0,0]++vz h))=I:=⟨_,rfl⟩
 have hIl:I<65536:=by rw[←hI];exact RQ _
 have hC:=qN [I] (fun x hx=>by simp only[List.mem_cons,List.not_mem_nil,or_false]at hx;omega) (by show 0<1;decide) (by show 1≤_;decide);have sC:=zu [I];rw[hI]at hP;obtain⟨tA,eA⟩:∃t,tx (hvL (pA h b.size))=t:=⟨_,rfl⟩
 obtain⟨tB,eB⟩:∃t,tx (hvL (pB h))=t:=⟨_,rfl⟩
 obtain⟨tC,eC⟩:∃t,tx (hvL [I])=t:=⟨_,rfl⟩
 obtain⟨tD,eD⟩:∃t,tx (hvL (pD h b.size))=t:=⟨_,rfl⟩
 rw[eA]at hA hT hP sA;rw[eB]at hB hT hP sB;rw[eC]at hC hP sC;rw[eD]at hD hP sD;have sA:tA.size=10:=sA;have sB:tB.size=8:=sB;have sC:tC.size=2:=sC;have sD:tD.size=8:=sD;have x1:=gW (P:=Tryz.prog) tA ⟨#[0,0]⟩ (by rw[sA];show 10+2≤_;decide);have s1:(tA++⟨#[0,0]⟩:ByteArray).size=12:=by rw[sH,sA];rfl
 have x2:=gW (P:=Tryz.prog) (tA++⟨#[0,0]⟩) tB (by rw[s1,sB];decide);have x3:=gW (P:=Tryz.prog) tA tC (by omega);have s3:(tA++tC).size=12:=by rw[sH];omega
 have x4:=gW (P:=Tryz.prog) (tA++tC) tB (by omega);have s4:(tA++tC++tB).size=20:=by rw[sH];omega
 have x5:=gW (P:=Tryz.prog) (tA++tC++tB) tD (by omega);have s5:(tA++tC++tB++tD).size=28:=by rw[sH];omega
 have x6:=gW (P:=Tryz.prog) (tA++tC++tB++tD) b (by omega);obtain⟨T,hTe⟩:∃T,tA++⟨#[0,0]⟩++tB=T:=⟨_,rfl⟩
 rw[hTe]at hT x2;have hTs:T.size=20:=by rw[←hTe,sH];omega
 have hin:=fun W=>aT (NV T (by omega) W)
 rw[hT,hI]at hin;have DI:=ae hin;rw[←hP];clear hP hT hI hTe hTs hin eA eB eC eD s1 s3 s4 s5 sA sB sC sD;obtain⟨ds,id,eX,s,d,sp,p⟩:=h;simp only[pA,pB,pD,vH,List.map_cons,List.map_nil,List.length_cons,List.length_nil]at hA hB hC hD;simp only at q1 q2 q3 q4 q5 q6 hd;rw[show((17664+ds*4:Nat):Int)=17664+(ds:Int)*4 by omega,show((b.size+28:Nat):Int)=(b.size:Int)+28 by omega,show((eX*256+17:Nat):Int)=(eX:Int)*256+17 by omega]at hA;have HA:Hid (∀W,Calls Tryz.prog 84 #[.slice (some ⟨W.heap.size,0,none⟩) 5 5] (W.alloc (.cells #[.int .u16 (17664+(ds:Int)*4),.int .u16 ((b.size:Int)+28),.int .u16 id,.int .u16 0,.int .u16 ((eX:Int)*256+17)] 41)) fun e w'=>e=.returned (.string tA)∧Kp none' W w'):=ae hA;rw[show((s/65536:Nat):Int)=(s:Int)/65536 by omega,show((s%65536:Nat):Int)=(s:Int)%65536 by omega,show((d/65536:Nat):Int)=(d:Int)/65536 by omega,show((d%65536:Nat):Int)=(d:Int)%65536 by omega]at hB;have HB:Hid (∀W,Calls Tryz.prog 84 #[.slice (some ⟨W.heap.size,0,none⟩) 4 4] (W.alloc (.cells #[.int .u16 ((s:Int)/65536),.int .u16 ((s:Int)%65536),.int .u16 ((d:Int)/65536),.int .u16 ((d:Int)%65536)] 41)) fun e w'=>e=.returned (.string tB)∧Kp none' W w'):=ae hB;have HC:Hid (∀W,Calls Tryz.prog 84 #[.slice (some ⟨W.heap.size,0,none⟩) 1 1] (W.alloc (.cells #[.int .u16 I] 41)) fun e w'=>e=.returned (.string tC)∧Kp none' W w'):=ae hC;rw[show((b.size+8:Nat):Int)=(b.size:Int)+28-20 by omega]at hD;have HD:Hid (∀W,Calls Tryz.prog 84 #[.slice (some ⟨W.heap.size,0,none⟩) 4 4] (W.alloc (.cells #[.int .u16 sp,.int .u16 p,.int .u16 ((b.size:Int)+28-20),.int .u16 0] 41)) fun e w'=>e=.returned (.string tD)∧Kp none' W w'):=ae hD;clear hA hB hC hD;have i1:¬(63:Int)<ds:=by omega
 have i2:¬(65507:Int)<b.size:=by omega
 have HH0:=ae (ag.new w [.int .u8 ds,.int .u16 id,.int .u8 eX,.int .u32 s,.int .u32 d,.int .u16 sp,.int .u16 p] 44);have aB:=ae ((Kp.refl none' w).alloc (.cells #[.int .u8 ds,.int .u16 id,.int .u8 eX,.int .u32 s,.int .u32 d,.int .u16 sp,.int .u16 p] 44));simp only[fO]
 go_enter Tryz.func45,Tryz.ntmps45
 go_wp2_with fail
 have ha:=HA.out (w.alloc (.cells #[.int .u8 ds,.int .u16 id,.int .u8 eX,.int .u32 s,.int .u32 d,.int .u16 sp,.int .u16 p] 44));rw[World.size_alloc]at ha;refine ha.mono ?_;clear ha;rintro e w1 ⟨rfl,hk1⟩;have ax:=ae (aB.out.trans hk1);have sJ:=ae (HH0.out.kp hk1 (fun x=>x));clear hk1 HH0 aB HA;have c13:=sJ.out.cell 3 rfl;have c14:=sJ.out.cell 4 rfl;have c15:=sJ.out.cell 5 rfl;have c16:=sJ.out.cell 6 rfl
 go_wp2_with fail
 refine(HB.out _).mono ?_;rintro e w2 ⟨rfl,hk2⟩;have ak:=ae (ax.out.trans hk2);have DJ:=ae (sJ.out.kp hk2 (fun x=>x));clear c13 c14 c15 c16 hk2 sJ ax
 go_wp2_with fail
 refine(DI.out _).mono ?_;rintro e w3 ⟨rfl,hk3⟩;have aF:=ae (ak.out.trans hk3);have zy:=ae (DJ.out.kp hk3 (fun x=>x));clear hk3 DJ ak
 go_wp2_with fail
 refine(HC.out _).mono ?_;rintro e w4 ⟨rfl,hk4⟩;have aH:=ae (aF.out.trans hk4);have xB:=ae (zy.out.kp hk4 (fun x=>x));clear hk4 zy aF;have c43:=xB.out.cell 3 rfl;have c44:=xB.out.cell 4 rfl;have c45:=xB.out.cell 5 rfl;have c46:=xB.out.cell 6 rfl
 go_wp2_with fail
 refine(HD.out _).mono ?_;rintro e w5 ⟨rfl,hk5⟩;have a_:=ae (aH.out.trans hk5);have HH5:=ae (xB.out.kp hk5 (fun x=>x));clear c43 c44 c45 c46 hk5 xB aH
 go_wp2_with fail
 go_ret2
 exact⟨rfl,a_.out⟩
end Go.Proofs.YtjiehhlghjnfhaaGreatDoor
namespace Go.Proofs.YtjiehhlghjnfhaaGreatDoor
def cO (a:Nat) (b:Int):Bool:=decide (0≤b)&&decide (b≤32)&&decide (a%2^(32-b.toNat)=0)
def hasB (a:Nat) (b:Int) (x:Nat):Bool:=cO a b&&decide (x/2^(32-b.toNat)=a/2^(32-b.toNat))
def qO (a:Nat) (b:Int) (a':Nat) (b':Int):Bool:=cO a' b'&&decide (b≤b')&&hasB a b a'
theorem dK {a:Nat} {b:Int}:cO a b=true↔0≤b∧b≤32∧a%2^(32-b.toNat)=0:=by unfold cO;simp[and_assoc]
theorem jM {a:Nat} {b:Int} {x:Nat}:hasB a b x=true↔cO a b=true∧x/2^(32-b.toNat)=a/2^(32-b.toNat):=by unfold hasB;simp
theorem jO {a:Nat} {b:Int} {a':Nat} {b':Int}:qO a b a' b'=true↔cO a' b'=true∧b≤b'∧hasB a b a'=true:=by unfold qO;simp[and_assoc]
theorem yh {b b':Int} (h0:0≤b) (h:b≤b') (h1:b'≤32):2^(32-b.toNat)=2^(32-b'.toNat)*2^(b'.toNat-b.toNat):=by
 rw[←Nat.pow_add];congr 1;omega
theorem Qp {b b':Int} (h0:0≤b) (h:b≤b') (h1:b'≤32) {x y:Nat} (e:x/2^(32-b'.toNat)=y/2^(32-b'.toNat)):x/2^(32-b.toNat)=y/2^(32-b.toNat):=by
 rw[yh h0 h h1,←Nat.div_div_eq_div_mul,←Nat.div_div_eq_div_mul,e]
theorem Y1 {a a' x:Nat} {b b':Int} (h:hasB a b x=true) (h':hasB a' b' x=true) (hb:b≤b'):qO a b a' b'=true:=by
 rw[jM,dK]at h h';rw[jO,jM,dK,dK];refine⟨h'.1,hb,h.1,?_⟩;have:=Qp h.1.1 hb h'.1.2.1 h'.2;rw[←this];exact h.2
theorem Qq {a a' x:Nat} {b b':Int} (h:qO a b a' b'=true) (h':hasB a' b' x=true):hasB a b x=true:=by
 rw[jO,jM,dK,dK]at h;rw[jM,dK]at h';rw[jM,dK];exact⟨h.2.2.1,(Qp h.2.2.1.1 h.2.1 h'.1.2.1 h'.2).trans h.2.2.2⟩
end Go.Proofs.YtjiehhlghjnfhaaGreatDoor
