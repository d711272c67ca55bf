/- A region that draws its order, in which some operations yield the same in every world (taken first), others yield the same in every world in which what was there is as it was, and make memory at most; the last few wait for all of these. Walked once, in the text's order. Names no function of the program. -/
import Derived.Test.YtjiehhlghjnfhaaGreatDoorMTopLineF0
import Derived.StillTail
import Derived.Carry
import Derived.Test.YtjiehhlghjnfhaaGreatDoorShelf
import Derived.Laws.Tables
import Derived.Deep.MidRow
set_option linter.unusedVariables false
set_option linter.unusedSimpArgs false
set_option maxHeartbeats 4000000
namespace Go.Proofs.YtjiehhlghjnfhaaGreatDoor
open Go Go.RowKit
def nX (P:Program) (ops:Array Oper) (w0:World) (o:Oper) (v:Value) (a:Act):Prop:=
 (Region.wanted o (yielded ops a.tmps)=true∧∀w,Kp none' w0 w→(execOp a.eval o).run P w=.ok (.value v) w∨(∃f args,(execOp a.eval o).run P w=.ok (.enter f args) w∧Calls P f args w fun e w'=>e=.returned v∧Kp none' w w')∨((execOp a.eval o).run P w=.ok .skip w∧v=undef))∨
 (Region.wanted o (yielded ops a.tmps)=false∧v=undef)
variable {P:Program} {ops:Array Oper} {Q:Exit→Act→World→Prop} {md:Region.Mode}
theorem nX.wpOp {w0:World} {i:Nat} {o:Oper} {v:Value} {a:Act} (hi:ops[i]? =some o) (hy:nX P ops w0 o v a) {K:Act→World→Prop} {w:World} (hk:Kp none' w0 w) (h:∀w',Kp none' w0 w'→K (a.put o.dst v) w'):Go.wpOp P ops Q i K a w:=by
 unfold Go.wpOp;simp only[hi];rcases hy with⟨hw,hv⟩|⟨hw,rfl⟩
 ·rw[if_pos hw];refine .inl ?_;unfold Oper.wp;rcases hv w hk with e|⟨f,args,e,hc⟩|⟨e,rfl⟩
  ·rw[e];exact h w hk
  ·rw[e];refine Calls.mono hc fun x w' hx=> ?_
   obtain⟨rfl,hk'⟩:=hx;exact h w' (hk.trans hk')
  ·rw[e];exact h w hk
 ·rw[if_neg (by rw[hw];simp)];exact h w hk
theorem nX.alike {w0:World} {o:Oper} {v:Value} {a a':Act} (hy:nX P ops w0 o v a) (he:execOp a'.eval o=execOp a.eval o) (hw:Region.wanted o (yielded ops a'.tmps)=Region.wanted o (yielded ops a.tmps)):nX P ops w0 o v a':=by
 unfold nX at*;rw[he,hw];exact hy
def eG (P:Program) (ops:Array Oper) (w0:World) (C:Act→Prop):List Nat→Act→Prop
 | [],a=>C a
 |i::r,a=>∃o v,ops[i]? =some o∧nX P ops w0 o v a∧eG P ops w0 C r (a.put o.dst v)
def lh (P:Program) (ops:Array Oper) (C:Act→Prop):List Nat→Act→Prop
 | [],a=>C a
 |i::r,a=>∃o v,ops[i]? =some o∧oz P ops o v a∧lh P ops C r (a.put o.dst v)
theorem eG.out {w0:World} {C:Act→Prop} {i:Nat} {o:Oper} (hi:ops[i]? =some o) (hsel:∀(j:Nat) (o:Oper) cs b,ops[j]? =some o→o.op≠.select cs b) (post:List Nat):∀(pre:List Nat) (a:Act),
 (∀p∈pre,∀op,ops[p]? =some op→op.apart ops o=true)→eG P ops w0 C (pre++i::post) a→∃v,nX P ops w0 o v a∧eG P ops w0 C (pre++post) (a.put o.dst v)
 | [],a,_,h=>by
  obtain⟨o',v,h1,h2,h3⟩:=h;have:o'=o:=Option.some.inj (h1.symm.trans hi);subst this;exact⟨v,h2,h3⟩
 |p::pre,a,hap,h=>by
  obtain⟨op,vp,h1,h2,h3⟩:=h;obtain⟨v,e1,e2⟩:=eG.out hi hsel post pre _ (fun q hq=>hap q (List.mem_cons_of_mem _ hq)) h3;obtain⟨a1,a2,a3⟩:=Oper.apart_spec (hap p List.mem_cons_self op h1);have hso:=fun cs b=>hsel i o cs b hi
  have hsp:=fun cs b=>hsel p op cs b h1
  refine⟨v,e1.alike (execOp_put o hso a op.dst vp a1).symm (wanted_put o a op.dst vp a1).symm,op,vp,h1,h2.alike (execOp_put op hsp a o.dst v a3) (wanted_put op a o.dst v a3),?_⟩;rw[←Act.put_comm a vp v a2];exact e2
def Dw (md:Region.Mode) (ops:Array Oper) (E:List Nat) (n:Nat):Bool:=
 (List.range n).all fun i=>E.contains i||(List.range (n+1)).any fun j=>decide (i<j)&&Region.waitsFor md ops j i
theorem ug {E:List Nat} {n:Nat} {listed:Array Bool} (hs:Dw md ops E n=true) (hc:Region.chainB md ops n=true) (hn:n<ops.size) (inv:HeadInv md ops n listed) (hE:∀e∈E,listed.getD e false=true):
 ∀(d i:Nat),n-i=d→i<n→listed.getD i true=false→∀t,n≤t→t∉Region.ready md ops listed:=by
 intro d;induction d using Nat.strongRecOn with
 |_ d ih=>
  intro i hd hi hun t ht hr;obtain⟨_,ot,hot,hall⟩:=mem_ready.1 hr;have htlt:t<ops.size:=(Array.getElem?_eq_some_iff.1 hot).1;by_cases htn:t=n
  ·subst htn;have h1:=List.all_eq_true.1 hs i (List.mem_range.2 hi);rw[Bool.or_eq_true]at h1;rcases h1 with h1|h1
   ·have:=hE i (by simpa using h1);rw[getD_both hun]at this;cases this
   ·obtain⟨j,hj,hj2⟩:=List.any_eq_true.1 h1;simp only[Bool.and_eq_true,decide_eq_true_eq]at hj2;obtain⟨oj,hoj,e,he,hb,hon⟩:=Region.waitsFor_spec hj2.2;have hjle:j≤t:=by have:=List.mem_range.1 hj;omega
    by_cases hjt:j=t
    ·subst hjt;have:oj=ot:=Option.some.inj (hoj.symm.trans hot);subst this;have h2:=hall e he hb;rw[hon,getD_both hun]at h2;cases h2
    ·cases hl:listed.getD j false with
     |true=>
      have h2:=inv.closed j oj hoj hl e he hb;rw[hon,getD_both hun]at h2;cases h2
     |false=>
      have hjs:j<listed.size:=by rw[inv.size];omega
      exact ih (t-j) (by omega) j rfl (by omega) (getD_in hjs hl) t (Nat.le_refl _) hr
  ·have h1:=List.all_eq_true.1 hc t (List.mem_range.2 htlt);simp only[Bool.or_eq_true,decide_eq_true_eq]at h1;rcases h1 with h1|h1
   ·omega
   ·obtain⟨o',ho',e,he,hb,hon⟩:=Region.waitsFor_spec h1;have:o'=ot:=Option.some.inj (ho'.symm.trans hot);subst this;have h2:=hall e he hb;rw[hon,getD_both (inv.tail (t-1) (by omega) (by omega))]at h2;cases h2
def Dx (md:Region.Mode) (ops:Array Oper):Bool:=
 (List.range ops.size).all fun j=>match ops[j]? with|some oj=>oj.after.all fun e=> !Region.binds md e||decide (e.on<j)|none=>true
theorem qJ (h:Dx md ops=true) (j:Nat) (oj:Oper) (hj:ops[j]? =some oj):∀e∈oj.after,Region.binds md e=true→e.on<j:=by
 intro e he hb;have h1:=List.all_eq_true.1 h j (List.mem_range.2 (Array.getElem?_eq_some_iff.1 hj).1);simp only[hj]at h1;have h2:=Array.all_eq_true_iff_forall_mem.1 h1 e he;simpa[hb]using h2
def zk (md:Region.Mode) (ops:Array Oper) (n:Nat):Bool:=
 (List.range n).all fun i=>(List.range i).all fun p=>Region.waitsFor md ops i p||match ops[p]?,ops[i]? with|some op,some oi=>op.apart ops oi|_,_=>true
theorem zl {n:Nat} (h:zk md ops n=true) (p i:Nat) (op oi:Oper) (hpi:p<i) (hi:i<n) (h1:ops[p]? =some op) (h2:ops[i]? =some oi) (hno:∀e∈oi.after,Region.binds md e=true→e.on≠p):op.apart ops oi=true:=by
 have h3:=List.all_eq_true.1 (List.all_eq_true.1 h i (List.mem_range.2 hi)) p (List.mem_range.2 hpi);rw[Bool.or_eq_true]at h3;rcases h3 with h3|h3
 ·obtain⟨oj,hoj,e,he,hb,hon⟩:=Region.waitsFor_spec h3;have:oj=oi:=Option.some.inj (hoj.symm.trans h2);subst this;exact absurd hon (hno e he hb)
 ·simpa[h1,h2]using h3
theorem jf {listed:Array Bool} {i:Nat} (hi:i<listed.size) (h:¬listed.getD i true=false):listed.getD i false=true:=by
 simp[hi]at h ⊢;exact h
theorem BI {w0:World} {n g:Nat} {E:List Nat} {C:Act→Prop} (hsel:Region.noSelect ops=true) (hs:Dw md ops E n=true) (hc:Region.chainB md ops n=true) (hn:n<ops.size) (hd:Dx md ops=true) (hp:zk md ops n=true)
 (hC:∀listed a w,listed.size=ops.size→(∀i,i<n→listed.getD i false=true)→(∀t,n≤t→t<ops.size→listed.getD t true=false)→C a→Kp none' w0 w→wpAny P md ops Q g listed a w):
 ∀(m:Nat) (R:List Nat) (listed:Array Bool) (a:Act) (w:World),R.length=m→R.Pairwise (·< ·)→(∀i∈R,i<n)→(∀i,i<n→(listed.getD i true=false↔i∈R))→(∀e∈E,listed.getD e false=true)→HeadInv md ops n listed→Kp none' w0 w→
  eG P ops w0 C R a→wpAny P md ops Q (m+g) listed a w:=by
 intro m;induction m with
 |zero=>
  intro R listed a w hl _ _ hR hE inv hk h;have:R=[]:=List.eq_nil_of_length_eq_zero hl;subst this;rw[Nat.zero_add];exact hC listed a w inv.size (fun i hi=>jf (by rw[inv.size];omega) (fun h0=>by have:=(hR i hi).1 h0;cases this)) inv.tail h hk
 |succ m ih=>
  intro R listed a w hl hpw zn hR hE inv hk h;obtain⟨r0,R',rfl⟩:∃r0 R',R=r0::R':=by cases R with|nil=>simp at hl|cons r R'=>exact⟨_,_,rfl⟩
  have hr0:r0<n:=zn r0 List.mem_cons_self;have J4:listed.getD r0 true=false:=(hR r0 hr0).2 List.mem_cons_self;rw[show m+1+g=(m+g)+1 by omega];refine⟨fun h0=> ?_,fun i hi=> ?_⟩
  ·have:r0∈Region.ready md ops listed:=by
    obtain⟨o,ho⟩:∃o,ops[r0]? =some o:=⟨_,Array.getElem?_eq_getElem (by omega)⟩
    refine mem_ready.2 ⟨J4,o,ho,fun e he hb=> ?_⟩;have hlt:=qJ hd r0 o ho e he hb;refine jf (by rw[inv.size];omega) (fun h1=> ?_);have hm:=(hR e.on (by omega)).1 h1;rcases List.mem_cons.1 hm with h2|h2
    ·omega
    ·have:=(List.pairwise_cons.1 hpw).1 _ h2;omega
   rw[h0]at this;cases this
  ·have hin:i<n:=by
    rcases Nat.lt_or_ge i n with h1|h1
    ·exact h1
    ·exact absurd hi (ug hs hc hn inv hE _ r0 rfl hr0 J4 i h1)
   obtain⟨hun,oi,hoi,hall⟩:=mem_ready.1 hi;have hm:=(hR i hin).1 hun;obtain⟨pre,post,hpp⟩:=List.append_of_mem hm;rw[hpp]at h hpw hR zn hl;have hpre:∀p∈pre,p<i:=fun p hp=>(List.pairwise_append.1 hpw).2.2 p hp i List.mem_cons_self
   have hpost:∀p∈post,i<p:=fun p hp=>(List.pairwise_cons.1 (List.pairwise_append.1 hpw).2.1).1 p hp
   obtain⟨v,e1,e2⟩:=eG.out hoi (Region.noSelect_spec hsel) post pre a (fun p hp' op hop=>zl hp p i op oi (hpre p hp') hin hop hoi (fun e he hb heq=>by
    have h1:=hall e he hb;have h2:=(hR p (zn p (List.mem_append_left _ hp'))).2 (List.mem_append_left _ hp')
    rw[heq,getD_both h2]at h1;cases h1)) h
   have hsub:(pre++post).Sublist (pre++i::post):=List.Sublist.append_left (List.sublist_cons_self _ _) _;refine e1.wpOp hoi hk (fun w' hk'=>ih (pre++post) _ _ w' (by simp at hl ⊢;omega) (hpw.sublist hsub) (fun j hj=>zn j (hsub.subset hj)) (fun j hj=> ?_) (fun e he=>getD_set_true (hE e he)) (inv.set hi hin) hk' e2);by_cases hji:i=j
   ·subst hji;have h1:(listed.setIfInBounds i true).getD i true=true:=by
     have:i<listed.size:=by rw[inv.size];omega
     simp[this]
    rw[h1];refine⟨fun h=>(by cases h),fun h=> ?_⟩;rcases List.mem_append.1 h with h|h
    ·have:=hpre _ h;omega
    ·have:=hpost _ h;omega
   ·rw[getD_set_ne true hji,hR j hj];constructor
    ·intro h;rcases List.mem_append.1 h with h|h
     ·exact List.mem_append_left _ h
     ·rcases List.mem_cons.1 h with h|h
      ·omega
      ·exact List.mem_append_right _ h
    ·intro h;exact hsub.subset h
def vF (ops:Array Oper) (E:List Nat):Array Bool:=E.foldl (fun l e=>l.setIfInBounds e true) (Array.replicate ops.size false)
def Df (md:Region.Mode) (ops:Array Oper):List Nat→Array Bool→Bool
 | [],_=>true
 |k::r,listed=>(Region.ready md ops listed).contains k&&Region.free md ops listed k&&Df md ops r (listed.setIfInBounds k true)
theorem zo {g:Nat} {C:Act→Prop} {w:World} (hs:Region.noSelect ops=true) (hQ:∀c a d u w,Q (.panic c) (Act.put a d u) w→Q (.panic c) a w):
 ∀(E:List Nat) (listed:Array Bool) (a:Act),Df md ops E listed=true→(∀a,C a→wpAny P md ops Q g (E.foldl (fun l e=>l.setIfInBounds e true) listed) a w)→lh P ops C E a→wpAny P md ops Q (E.length+g) listed a w
 | [],listed,a,_,hC,h=>by simpa using hC a h
 |k::E,listed,a,hB,hC,h=>by
  obtain⟨o,v,h0,hv,hr⟩:=h;simp only[Df,Bool.and_eq_true]at hB;obtain⟨⟨b1,b2⟩,b3⟩:=hB;have:=zo hs hQ E (listed.setIfInBounds k true) (a.put o.dst v) b3 (fun a hc=>hC a hc) hr;rw[List.length_cons,show E.length+1+g=(E.length+g)+1 by omega];exact BH h0 (Region.noSelect_spec hs) hQ _ _ _ _ (Region.free_spec h0 b2) (by simpa using b1) hv this
def sortedB:List Nat→Bool
 |a::b::r=>decide (a<b)&&sortedB (b::r)
 |_=>true
theorem qZ:∀(l:List Nat),sortedB l=true→l.Pairwise (·< ·)
 | [],_=>List.Pairwise.nil
 | [a],_=>List.pairwise_singleton _ _
 |a::b::r,h=>by
  simp only[sortedB,Bool.and_eq_true,decide_eq_true_eq]at h;have ih:=qZ (b::r) h.2;refine List.pairwise_cons.2 ⟨fun c hc=> ?_,ih⟩;rcases List.mem_cons.1 hc with rfl|hc
  ·exact h.1
  ·exact Nat.lt_trans h.1 ((List.pairwise_cons.1 ih).1 c hc)
def m_ (ops:Array Oper) (n:Nat):Array Bool:=(List.range ops.size).toArray.map fun i=>decide (i<n)
def NT (md:Region.Mode) (ops:Array Oper) (E K:List Nat) (n:Nat):Bool:=
 Region.noSelect ops&&decide (n<ops.size)&&Dw md ops E n&&Region.chainB md ops n&&Dx md ops&&zk md ops n&&Df md ops E (Array.replicate ops.size false)&&sortedB K&&K.all (fun k=>decide (k<n))&&
 ((List.range n).all fun i=>(vF ops E).getD i true== !K.contains i)&&E.all (fun e=>(vF ops E).getD e false)&&decide ((vF ops E).size=ops.size)&&((List.range ops.size).all fun t=>decide (t<n)|| !(vF ops E).getD t true)&&
 ((List.range ops.size).all fun j=> !(vF ops E).getD j false||match ops[j]? with|some oj=>oj.after.all fun e=> !Region.binds md e||(vF ops E).getD e.on false|none=>true)&&
 Region.seqB md ops (ops.size-n) n (m_ ops n)&&decide (E.length+K.length=n)
theorem CB {id:Nat} {a:Act} {w:World} {l:List Oper} (E K:List Nat) (n:Nat) (hm:P.follows .mixedOrders=true) (hB:NT .any l.toArray E K n=true)
 (hQ:∀c a d u w,Q (.panic c) (Act.put a d u) w→Q (.panic c) a w)
 (h:lh P l.toArray (eG P l.toArray w (fun a'=>∀W,Kp none' w W→wpList P l.toArray Q (l.drop n) a' W) K) E a):(Code.region id l.toArray true).wp P Q a w:=by
 simp only[NT,Bool.and_eq_true,decide_eq_true_eq]at hB;obtain⟨⟨⟨⟨⟨⟨⟨⟨⟨⟨⟨⟨⟨⟨⟨b1,b2⟩,b3⟩,b4⟩,b5⟩,b6⟩,b7⟩,b8⟩,b9⟩,b10⟩,b11⟩,b12⟩,b13⟩,b14⟩,b15⟩,b16⟩:=hB;have hsz:l.toArray.size=l.length:=by simp
 refine wp_region_any hm ?_;have inv0:HeadInv .any l.toArray n (vF l.toArray E):=by
  refine⟨b12,fun j oj hj hl e he hb=> ?_,fun t ht ht'=> ?_⟩
  ·have h1:=List.all_eq_true.1 b14 j (List.mem_range.2 (Array.getElem?_eq_some_iff.1 hj).1);simp only[hj,hl,Bool.not_true,Bool.false_or]at h1;have h2:=Array.all_eq_true_iff_forall_mem.1 h1 e he;simpa[hb]using h2
  ·have h1:=List.all_eq_true.1 b13 t (List.mem_range.2 ht');rw[decide_eq_false (by omega),Bool.false_or]at h1;simpa using h1
 have hfin:=zo (P:=P) (md:=.any) (ops:=l.toArray) (Q:=Q) (w:=w.drew) (g:=K.length+(l.toArray.size-n)) b1 hQ E (Array.replicate l.toArray.size false) a b7 (fun a' hc=>
  BI (E:=E) b1 b3 b4 b2 b5 b6 (fun listed a'' w' hs h1 h2 hcc hk=>by
   have hcan:listed=m_ l.toArray n:=by
    apply Array.ext
    ·simp[m_,hs]
    ·intro i hi1 hi2;have hil:i<l.toArray.size:=by rw[←hs];exact hi1
     simp only[m_,List.map_toArray,List.getElem_toArray,List.getElem_map,List.getElem_range];by_cases hin:i<n
     ·have:=h1 i hin;simp[hi1]at this;rw[this,decide_eq_true hin]
     ·have:=h2 i (by omega) hil;simp[hi1]at this;rw[this,decide_eq_false hin]
   subst hcan;have hdl:(l.drop n).length=l.toArray.size-n:=by simp
   have:=wpAny_of_seq (P:=P) (md:=.any) (ops:=l.toArray) (Q':=Q) (l.drop n) n (m_ l.toArray n) a'' w' (fun j=>by simp[List.getElem?_drop]) (by rw[hdl];exact b15) (hcc w' hk)
   rwa [hdl]at this) K.length K (vF l.toArray E) a' w.drew rfl (qZ K b8) (fun i hi=>by simpa using List.all_eq_true.1 b9 i hi) (fun i hi=>by
    have h1:=List.all_eq_true.1 b10 i (List.mem_range.2 hi);rw[beq_iff_eq]at h1
    rw[h1];simp) (fun e he=>List.all_eq_true.1 b11 e he) inv0 (Kp.refl none' w).drew hc) h
 rw[show E.length+(K.length+(l.toArray.size-n))=l.toArray.size by omega]at hfin;exact hfin
theorem aT {P:Program} {f:FuncId} {args:Array Value} {w:World} {v:Ending} (h:Calls P f args w fun e w'=>e=v∧w=w'):Calls P f args w fun e w'=>e=v∧Kp none' w w':=
 h.mono fun _ _ ⟨he,hw⟩=>⟨he,hw▸Kp.refl none' w⟩
def pick (l:List Oper):List Nat→List Oper
 | []=>[]
 |k::r=>match l[k]? with
  |some o=>o::pick l r
  |none=>pick l r
def aA (P:Program) (ops:Array Oper) (w0:World) (C:Act→Prop):List Oper→Act→Prop
 | [],a=>C a
 |o::r,a=>∃v,nX P ops w0 o v a∧aA P ops w0 C r (a.put o.dst v)
theorem rq {w0:World} {C:Act→Prop} {l:List Oper}:∀(K:List Nat) (a:Act),K.all (fun k=>decide (k<l.length))=true→aA P l.toArray w0 C (pick l K) a→eG P l.toArray w0 C K a
 | [],a,_,h=>h
 |k::K,a,hb,h=>by
  simp only[List.all_cons,Bool.and_eq_true,decide_eq_true_eq]at hb;have hk:l[k]? =some l[k]:=List.getElem?_eq_getElem hb.1;simp only[pick,hk]at h;obtain⟨v,h1,h2⟩:=h;exact⟨l[k],v,by rw[List.getElem?_toArray];exact hk,h1,rq K _ hb.2 h2⟩
theorem vG {C:Act→Prop} {l:List Oper}:∀(K:List Nat) (a:Act),K.all (fun k=>decide (k<l.length))=true→pz P l.toArray C (pick l K) a→lh P l.toArray C K a
 | [],a,_,h=>h
 |k::K,a,hb,h=>by
  simp only[List.all_cons,Bool.and_eq_true,decide_eq_true_eq]at hb;have hk:l[k]? =some l[k]:=List.getElem?_eq_getElem hb.1;simp only[pick,hk]at h;obtain⟨v,h1,h2⟩:=h;exact⟨l[k],v,by rw[List.getElem?_toArray];exact hk,h1,vG K _ hb.2 h2⟩
theorem lh.mono {C C':Act→Prop} (hC:∀a,C a→C' a):∀(E:List Nat) (a:Act),lh P ops C E a→lh P ops C' E a
 | [],a,h=>hC a h
 |_::E,_,⟨o,v,h0,h1,h2⟩=>⟨o,v,h0,h1,lh.mono hC E _ h2⟩
theorem af {id:Nat} {a:Act} {w:World} {l:List Oper} (E K:List Nat) (n:Nat) (hm:P.follows .mixedOrders=true) (hB:(NT .any l.toArray E K n&&E.all (fun k=>decide (k<l.length))&&K.all (fun k=>decide (k<l.length)))=true)
 (hQ:∀c a d u w,Q (.panic c) (Act.put a d u) w→Q (.panic c) a w)
 (h:pz P l.toArray (fun a'=>aA P l.toArray w (fun a'=>∀W,Kp none' w W→wpList P l.toArray Q (l.drop n) a' W) (pick l K) a') (pick l E) a):(Code.region id l.toArray true).wp P Q a w:=by
 simp only[Bool.and_eq_true]at hB;obtain⟨⟨b1,b2⟩,b3⟩:=hB;exact CB E K n hm b1 hQ (lh.mono (fun a' h'=>rq K a' b3 h') E a (vG E a b2 h))
theorem ah {w0:World} {C:Act→Prop} {r:List Oper} {o:Oper} {a:Act} {v:Value} (hw:Region.wanted o (yielded ops a.tmps)=true) (h1:∀W,Kp none' w0 W→(execOp a.eval o).run P W=.ok (.value v) W) (h2:aA P ops w0 C r (a.put o.dst v)):aA P ops w0 C (o::r) a:=
 ⟨v,.inl ⟨hw,fun W hk=>.inl (h1 W hk)⟩,h2⟩
theorem au {w0:World} {C:Act→Prop} {r:List Oper} {o:Oper} {a:Act} {v:Value} {f:FuncId} {args:Array Value} (hw:Region.wanted o (yielded ops a.tmps)=true) (h1:∀W,(execOp a.eval o).run P W=.ok (.enter f args) W)
 (hc:∀W,Kp none' w0 W→Calls P f args W fun e w'=>e=.returned v∧Kp none' W w') (h2:aA P ops w0 C r (a.put o.dst v)):aA P ops w0 C (o::r) a:=
 ⟨v,.inl ⟨hw,fun W hk=>.inr (.inl ⟨f,args,h1 W,hc W hk⟩)⟩,h2⟩
theorem ai {w0:World} {C:Act→Prop} {r:List Oper} {o:Oper} {a:Act} (hw:Region.wanted o (yielded ops a.tmps)=false) (h2:aA P ops w0 C r (a.put o.dst undef)):aA P ops w0 C (o::r) a:=
 ⟨undef,.inr ⟨hw,rfl⟩,h2⟩
end Go.Proofs.YtjiehhlghjnfhaaGreatDoor
namespace Go.Proofs.YtjiehhlghjnfhaaGreatDoor
open Go.RowKit Go.Shelf
theorem ace (x:Nat) (hx:x<4294967296):bits BinOp.and IntKind.u32 (x:Int) 65535=((x%65536:Nat):Int):=by
 have h1:x%65536=x&&&65535:=(Nat.and_two_pow_sub_one_eq_mod x 16).symm;rw[h1];exact u32_and_nat x 65535 hx (by decide)
theorem Iz (x:Nat) (hx:x<65536):bits BinOp.xor IntKind.u16 IntKind.u16.max (x:Int)=((65535-x:Nat):Int):=by
 have e:IntKind.u16.max=((65535:Nat):Int):=by decide
 rw[e,u16_xor_nat 65535 x (by decide) hx];congr 1
 have h:=BitVec.toNat_not (x:=BitVec.ofNat 16 x);rw[BitVec.not_def,BitVec.toNat_xor,BitVec.toNat_ofNat,BitVec.toNat_allOnes,Nat.mod_eq_of_lt hx]at h;simpa using h
theorem RV (a b:Nat):((kG a b:Nat):Int)=((a:Int)+b)/65536+((a:Int)+b)%65536:=by unfold kG;omega
theorem NU (a b:Nat) (h:a+b<4294967296) (w:World):Calls Tryz.prog 145 #[.int .u32 a,.int .u32 b] w fun e w'=>e=.returned (.int .u32 (kG a b:Nat))∧w=w':=by
 rw[RV];have ha:=ace (a+b) h;rw[show((a+b:Nat):Int)=(a:Int)+b by omega]at ha;have hr:((a:Int)+b)/65536+(((a+b)%65536:Nat):Int)=((a:Int)+b)/65536+((a:Int)+b)%65536:=by omega
 go_enter Tryz.func145,Tryz.ntmps145
 go_wp2
 go_ret
 exact⟨rfl,rfl⟩
theorem gd (s:ByteArray) (k:Nat) (h:k<s.size):(bl s).getD k 0=s[k]:=by
 rw[List.getD_eq_getElem?_getD,List.getElem?_eq_getElem (by rw[aO];exact h)];rfl
theorem YX (s:ByteArray) (k:Nat) (h:k+1<s.size):((hf (bl s) k:Nat):Int)=(s[k].toNat:Int)*256+(s[k+1].toNat:Int):=by
 unfold hf;rw[gd s k (by omega),gd s (k+1) h];simp
set_option maxRecDepth 100000 in
theorem lq (s:ByteArray) (k:Nat) (h:k+1<s.size) (hs:s.size≤1000000) (w:World):Calls Tryz.prog 83 #[.string s,.int .i64 k] w fun e w'=>e=.returned (.int .u16 (hf (bl s) k:Nat))∧Kp none' w w':=by
 rw[YX s k h];have hk:(k:Int)+1<s.size:=by omega
 have h0:k<s.size:=by omega
 have h1:=UInt8.toNat_lt s[k];have h2:=UInt8.toNat_lt s[k+1];have q1:IntKind.u16.wrap ((s[k].toNat:Nat):Int)=s[k].toNat:=IntWalk.u16_in _ (by omega);have q2:IntKind.u16.wrap (((s[k].toNat:Nat):Int)*256)=s[k].toNat*256:=IntWalk.u16_in _ (by omega);have q3:IntKind.u16.wrap ((s[k+1].toNat:Nat):Int)=s[k+1].toNat:=IntWalk.u16_in _ (by omega);have q4:IntKind.i64.wrap ((k:Int)+1)=(k:Int)+1:=IntWalk.i64_in _ (by omega);have q5:((k:Int)+1).toNat=k+1:=by omega
 go_enter Tryz.func83,Tryz.ntmps83
 go_wp2_with fail
 refine af [] [0,1,2,3,4,5,6,7,8,9] 10 (by kernel_rfl) (by kernel_rfl) (fun c a d u w h=>by cases d<;>exact h) ?_;simp only[pick,bn];show aA _ _ _ _ _ _
 repeat((first
  |refine ah (by exact rfl) (by as_aux_lemma=>intro W hK;go_simp;exact rfl) ?_
  |refine ai (by exact rfl) ?_);simp only[Act.put,aY])
 show ∀W,_→wpList _ _ _ _ _ _
 intro W hK;have HK:=ae hK;clear hK
 go_wp2
 go_ret
 exact⟨rfl,HK.out⟩
set_option maxRecDepth 100000 in
theorem U5 (s:ByteArray) (k:Nat) (h:k+3<s.size) (hs:s.size≤1000000) (w:World):Calls Tryz.prog 87 #[.string s,.int .i64 k] w fun e w'=>e=.returned (.int .u32 (wd (bl s) k:Nat))∧Kp none' w w':=by
 have H1:=ae (fun W=>lq s k (by omega) hs W);have h2:=fun W=>lq s (k+2) (by omega) hs W
 rw[show((k+2:Nat):Int)=(k:Int)+2 by omega]at h2;have H2:=ae h2;have l1:=mg (bl s) k;have l2:=mg (bl s) (k+2);have e:((wd (bl s) k:Nat):Int)=((hf (bl s) k:Nat):Int)*65536+((hf (bl s) (k+2):Nat):Int):=by unfold wd;omega
 rw[e];obtain⟨a,ha⟩:∃a,hf (bl s) k=a:=⟨_,rfl⟩
 obtain⟨b,hb⟩:∃b,hf (bl s) (k+2)=b:=⟨_,rfl⟩
 rw[ha]at H1 l1 ⊢;rw[hb]at H2 l2 ⊢;clear e ha hb h2
 go_enter Tryz.func87,Tryz.ntmps87
 go_wp2_with fail
 refine(H1.out _).mono ?_;rintro e w1 ⟨rfl,hk1⟩;have ax:=ae hk1;clear hk1
 go_wp2_with fail
 refine(H2.out _).mono ?_;rintro e w2 ⟨rfl,hk2⟩;have ak:=ae (ax.out.trans hk2);clear hk2
 go_wp2
 go_ret
 exact⟨rfl,ak.out⟩
theorem RX (l:List UInt8) (k:Nat):kH l k≤131071:=Gz _ _ (by omega)
set_option maxRecDepth 100000 in
theorem NV (s:ByteArray) (hs:s.size≤1000000) (w:World):Calls Tryz.prog 85 #[.string s] w fun e w'=>e=.returned (.int .u16 (mf (bl s):Nat))∧w=w':=by
 have HR:=ae (fun a b h W=>NU a b h W)
 go_enter Tryz.func85,Tryz.ntmps85
 go_wp2
 go_loop [3,4] (fun n0 i0=>∃k:Nat,i0=.int .i64 (2*(k:Int))∧2*k≤s.size+1∧n0=.int .u32 (kH (bl s) k:Nat)) (fun _ i0=>s.size+2-(intOf i0).toNat)
 case atStart=>exact⟨0,rfl,by omega,rfl⟩
 case round=>
  obtain⟨k,rfl,hk,rfl⟩:=hrel;have hle:=RX (bl s) k;by_cases h0:2*k<s.size
  ·have hc:=UInt8.toNat_lt s[2*k];by_cases h1:2*k+1<s.size
   ·have hd:=UInt8.toNat_lt s[2*k+1];have hst:=JY (l:=bl s) (k:=k) (by rw[aO];omega);rw[Iu s (2*k) h0,Iu s (2*k+1) h1]at hst;have HS:=ae hst;obtain⟨n,hn⟩:∃n,kH (bl s) k=n:=⟨_,rfl⟩
    obtain⟨m,hm⟩:∃m,kH (bl s) (k+1)=m:=⟨_,rfl⟩
    rw[hn,hm]at HS;rw[hn]at hle ⊢;have HM:=ae hm;have hr:=fun W=>HR.out n (s[2*k].toNat*256+s[2*k+1].toNat) (by omega) W
    rw[←HS.out,show((s[2*k].toNat*256+s[2*k+1].toNat:Nat):Int)=(s[2*k].toNat:Int)*256+(s[2*k+1].toNat:Int) by omega]at hr;have HR1:=ae hr;clear hst hn hm hr HS
    go_wp2_with fail
    refine(HR1.out _).mono ?_;rintro e w' ⟨rfl,rfl⟩
    go_wp2_with fail
    go_round
    case rel=>exact⟨k+1,by go_num,by omega,by rw[HM.out]⟩
    case measure=>simp[intOf];omega
   ·have hst:=JZ (l:=bl s) (k:=k) (by rw[aO];omega);rw[Dt (l:=bl s) (k:=k+1) (by rw[aO];omega),Iu s (2*k) h0]at hst;obtain⟨n,hn⟩:∃n,kH (bl s) k=n:=⟨_,rfl⟩
    obtain⟨m,hm⟩:∃m,kH (bl s) (k+1)=m:=⟨_,rfl⟩
    rw[hn,hm]at hst;rw[hn]at hle ⊢;have HM:=ae hm;have hr:=fun W=>HR.out n (s[2*k].toNat*256) (by omega) W
    rw[←hst,show((s[2*k].toNat*256:Nat):Int)=(s[2*k].toNat:Int)*256 by omega]at hr;have HR1:=ae hr;clear hst hn hm hr
    go_wp2_with fail
    refine(HR1.out _).mono ?_;rintro e w' ⟨rfl,rfl⟩
    go_wp2_with fail
    go_round
    case rel=>exact⟨k+1,by go_num,by omega,by rw[HM.out]⟩
    case measure=>simp[intOf];omega
  ·have hall:=Dt (l:=bl s) (k:=k) (by rw[aO];omega);have hL:mf (bl s)=65535-kH (bl s) k%65536:=by unfold mf;rw[hall]
   obtain⟨n,hn⟩:∃n,kH (bl s) k=n:=⟨_,rfl⟩
   rw[hn]at hL hle ⊢;have HL:=ae hL;have hw:IntKind.u16.wrap (n:Int)=((n%65536:Nat):Int):=by rw[IntKind.wrap_u16];omega
   have hx:=Iz (n%65536) (by omega);rw[←hw]at hx;clear hall hn hL hw
   go_wp2
   go_ret
   rw[HL.out];exact⟨gB rfl,rfl⟩
set_option maxRecDepth 100000 in
theorem adv (a b c:Nat) (ha:a<65536) (hb:b<65536) (hc:c<65536) (w:World):Calls Tryz.prog 144 #[.int .u16 a,.int .u16 b,.int .u16 c] w fun e w'=>e=.returned (.int .u16 (GH a b c:Nat))∧w=w':=by
 have x1:=Iz a ha;have x2:=Iz b hb;have hn1:=zi (a:=65535-a) (b:=65535-b) (by omega) (by omega);have hn2:=zi (a:=kG (65535-a) (65535-b)) (b:=c) (by omega) (by omega);have HR1:=ae (fun W=>NU (65535-a) (65535-b) (by omega) W);have HR2:=ae (fun W=>NU (kG (65535-a) (65535-b)) c (by omega) W);unfold GH;obtain⟨p,hp⟩:∃p,kG (65535-a) (65535-b)=p:=⟨_,rfl⟩
 rw[hp]at hn1 hn2 HR1 HR2 ⊢;obtain⟨q,hq⟩:∃q,kG p c=q:=⟨_,rfl⟩
 rw[hq]at hn2 HR2 ⊢;obtain⟨a',ha'⟩:∃a',65535-a=a':=⟨_,rfl⟩
 obtain⟨b',hb'⟩:∃b',65535-b=b':=⟨_,rfl⟩
 rw[ha']at x1 HR1;rw[hb']at x2 HR1;have l1:a'≤65535:=by omega
 have l2:b'≤65535:=by omega
 have x3:=Iz (q%65536) (by omega);have hw:IntKind.u16.wrap (q:Int)=((q%65536:Nat):Int):=by rw[IntKind.wrap_u16];omega
 rw[←hw]at x3;have m1:(a':Int)%4294967296=a':=by omega
 have m2:(b':Int)%4294967296=b':=by omega
 have m3:(c:Int)%4294967296=c:=by omega
 clear hp hq ha' hb' hw
 go_enter Tryz.func144,Tryz.ntmps144
 go_wp2_with fail
 refine(HR1.out _).mono ?_;rintro e w' ⟨rfl,rfl⟩
 go_wp2_with fail
 refine(HR2.out _).mono ?_;rintro e w' ⟨rfl,rfl⟩
 go_wp2
 go_ret
 exact⟨gB rfl,rfl⟩
def vH (l:List Nat):List Value:=l.map fun(n:Nat)=>.int .u16 (n:Int)
def hvL (l:List Nat):List UInt8:=l.flatMap (be 2)
theorem U6 (l:List Nat) (n:Nat):hvL (l++[n])=hvL l++be 2 n:=by simp[hvL]
theorem IA (l:List Nat):(hvL l).length=2*l.length:=by
 induction l with
 |nil=>rfl
 |cons a r ih=>show(be 2 a++hvL r).length=_;rw[List.length_append,Iw,ih,List.length_cons];omega
theorem U7 (a b:List UInt8):xA (a++b)=xA a++xA b:=by simp[xA]
theorem U8 (a:List UInt8):(xA a).length=a.length:=by simp[xA]
theorem NW (n:Nat) (h:n<65536):xA (be 2 n)=[.int .u8 ((n:Int)/256),.int .u8 ((n:Int)%256)]:=by
 simp only[be,xA,List.nil_append,List.map_append,List.map_cons,List.map_nil,byte_of,List.cons_append];have e1:((n/256:Nat):Int)%256=(n:Int)/256:=by omega
 rw[e1]
theorem RY {w:World} {base n:Nat} {v:Value} {l:List UInt8} (h:w.ownsRow base 5 1 v n (xA l)) (h0:0<n):
 (convert 282 9 v).run Tryz.prog w=.ok (.string (tx l)) w:=by
 have hl:l.length=n:=by have:=h.1;rw[U8,Nat.mul_one]at this;exact this
 rcases h.2 with⟨rfl,rfl⟩|⟨g,cap,cur,rfl,hg,hh,hn,hm,hs,ht⟩
 ·omega
 ·have hk:=run_convert_bytes_arg (P:=Tryz.prog) w 282 5 Tryz.underlying282 Tryz.underlying5 g 0 n cap (l.map fun c=>(c.toNat:Int)) (by simp[hl]) (fun i hi=>by
   have h1:(xA l)[i]? =some (.int .u8 (l[i]'(by omega)).toNat):=by simp[xA,hl▸hi]
   rw[←ht,List.getElem?_take,if_pos (by omega)]at h1;have h2:w.cell? ⟨g,0+i,none⟩=some (.int .u8 (l[i]'(by omega)).toNat):=by
    simp only[World.cell?,hh,Nat.zero_add];simpa using h1
   rw[h2]
   simp[List.getD,hl▸hi]) 9 Tryz.underlying9
  rw[hk,RS]
set_option maxRecDepth 100000 in
theorem Dy (l:List Nat) (hl:∀x∈l,x<65536) (h0:0<l.length) (hn:l.length≤1000) (v:Value) (w:World) (h:Sl w v l.length 1 (vH l)):
 Calls Tryz.prog 84 #[v] w fun e w'=>e=.returned (.string (tx (hvL l)))∧Kp none' w w':=by
 have HS:=ae h;obtain⟨ao,cap,rfl⟩:∃ao cap,v=.slice ao l.length cap:=by obtain⟨ao,cap,rfl,_⟩:=h.is;exact⟨_,_,rfl⟩
 have nG:Hid (w.ownsRow w.heap.size 5 1 (.slice none 0 0) 0 (xA (hvL []))):=ae ⟨rfl,.inl ⟨rfl,rfl⟩⟩;clear h
 go_enter Tryz.func84,Tryz.ntmps84
 go_wp2_with fail
 go_loopw [3,8] (fun v0 i0 wr=>∃k:Nat,i0=.int .i64 k∧k≤l.length∧Hid (wr.ownsRow w.heap.size 5 1 v0 (2*k) (xA (hvL (l.take k))))∧Hid (Kp none' w wr)) (fun _ i0 _=>l.length-(intOf i0).toNat)
 case atStart=>exact⟨0,rfl,by omega,by rw[List.take_zero];exact nG,ae (Kp.refl _ _)⟩
 case round=>
  clear nG;obtain⟨k,rfl,hk,HO,HK⟩:=hrel;obtain⟨xo,xc,rfl⟩:=dP HO.out;by_cases hlt:k<l.length
  ·have hki:(k:Int)<l.length:=by omega
   obtain⟨n,hnn⟩:∃n,l[k]=n:=⟨_,rfl⟩
   have hnl:n<65536:=by rw[←hnn];exact hl _ (List.getElem_mem _)
   have hcell:(vH l)[k]? =some (.int .u16 n):=by simp[vH,hlt,hnn]
   obtain⟨ao',cap',e1,hc⟩:=(HS.out.old HK.out).is;injection e1 with e1 _ e3
   subst e1 e3;obtain⟨g,off,rfl,hcg⟩:=hc k _ hcell;have HX:Hid (xA (hvL (l.take (k+1)))=xA (hvL (l.take k))++[.int .u8 ((n:Int)/256),.int .u8 ((n:Int)%256)]):=by
    show _=_;rw[List.take_succ_eq_append_getElem hlt,U6,U7,hnn,NW n hnl]
   have hsz:=HK.out.size;clear hcell hc hnn
   go_wp2_with(at_builtin;refine U4 tU8 (.tmp 12) (.tmp 18) rfl rfl w.heap.size (HO.out.alloc _) (b:=wr.heap.size) (off:=0) (m:=2) (c:=2) [.int .u8 ((n:Int)/256),.int .u8 ((n:Int)%256)] rfl rfl rfl (fun j u hu=>(ag.new wr [.int .u8 ((n:Int)/256),.int .u8 ((n:Int)%256)] 5).cell (0+j) (by rw[Nat.zero_add];exact hu)) rfl (by omega) (by omega) (by simp;omega) ?_)
   intro v3 w3 hown3 hgrow;have pF:Hid (w3.ownsRow w.heap.size 5 1 v3 (2*(k+1)) (xA (hvL (l.take (k+1))))):=by
    rw[HX.out,show 2*(k+1)=2*k+2 by omega];exact hown3
   have aF:Hid (Kp none' w w3):=(HK.out.alloc _).grown hgrow (fun b e=>.inr (aG HO.out e).1);clear hown3 hgrow HX HO HK
   go_wp2_with fail
   go_roundw
   case rel=>exact⟨k+1,by go_num,by omega,pF,aF⟩
   case measure=>simp[intOf];omega
  ·have hkn:k=l.length:=by omega
   have hx:=RY HO.out (by omega);rw[List.take_of_length_le (by omega)]at hx;have HF:=ae (RU (a:=tx (hvL l)) rfl);clear HO hkn
   go_wp2_with fail
   go_ret
   exact⟨rfl,HK.out⟩
theorem YY (s:ByteArray) (hs:s.size≤1000000) (w:World):Calls Tryz.prog 88 #[.string s] w fun e w'=>e=.returned (.string s)∧Kp none' w w':=by
 have HC:=ae (fun W=>Tryz.stringslite_Clone s W (by omega))
 go_enter Tryz.func88,Tryz.ntmps88
 go_wp2_with fail
 refine(HC.out _).mono ?_;rintro e w1 ⟨rfl,hb⟩;have HK:=ae ((Kp.of_below hb).mono (T:=none') (fun i h1 h2=>by omega));clear hb
 go_wp2
 go_ret
 exact⟨rfl,HK.out⟩
theorem U9 (s:ByteArray) (h:28≤s.size):t_ (bl s)=(decide (s[0].toNat=69)&&(decide (s[1].toNat%4=0)&&(decide (hf (bl s) 2=s.size)&&(decide (hf (bl s) 6=0)&&(decide (s[9].toNat=17)&&(decide (hf (bl s) 24+20=s.size)&&decide (hf (bl s) 26=0))))))):=by
 unfold t_;rw[gd s 0 (by omega),gd s 1 (by omega),gd s 9 (by omega),aO]
set_option maxRecDepth 100000 in
theorem U_ (s:ByteArray) (h:28≤s.size) (hs:s.size≤1000000) (w:World):Calls Tryz.prog 86 #[.string s] w fun e w'=>e=.returned (.bool (t_ (bl s)))∧Kp none' w w':=by
 rw[U9 s h];have g0:=UInt8.toNat_lt s[0];have g1:=UInt8.toNat_lt s[1];have g9:=UInt8.toNat_lt s[9];have z0:(0:Int)<s.size:=by omega
 have z1:(1:Int)<s.size:=by omega
 have z9:(9:Int)<s.size:=by omega
 have H2:Hid (∀W,Calls Tryz.prog 83 #[.string s,.int .i64 2] W fun e w'=>e=.returned (.int .u16 (hf (bl s) 2:Nat))∧Kp none' W w'):=ae (fun W=>lq s 2 (by omega) hs W);have b2:=mg (bl s) 2;have H6:Hid (∀W,Calls Tryz.prog 83 #[.string s,.int .i64 6] W fun e w'=>e=.returned (.int .u16 (hf (bl s) 6:Nat))∧Kp none' W w'):=ae (fun W=>lq s 6 (by omega) hs W);have b6:=mg (bl s) 6;have YZ:Hid (∀W,Calls Tryz.prog 83 #[.string s,.int .i64 24] W fun e w'=>e=.returned (.int .u16 (hf (bl s) 24:Nat))∧Kp none' W w'):=ae (fun W=>lq s 24 (by omega) hs W);have b24:=mg (bl s) 24;have H26:Hid (∀W,Calls Tryz.prog 83 #[.string s,.int .i64 26] W fun e w'=>e=.returned (.int .u16 (hf (bl s) 26:Nat))∧Kp none' W w'):=ae (fun W=>lq s 26 (by omega) hs W);have b26:=mg (bl s) 26;obtain⟨x2,e2⟩:∃x,hf (bl s) 2=x:=⟨_,rfl⟩
 rw[e2]at H2 b2 ⊢;clear e2;obtain⟨x6,e6⟩:∃x,hf (bl s) 6=x:=⟨_,rfl⟩
 rw[e6]at H6 b6 ⊢;clear e6;obtain⟨x24,e24⟩:∃x,hf (bl s) 24=x:=⟨_,rfl⟩
 rw[e24]at YZ b24 ⊢;clear e24;obtain⟨Va,e26⟩:∃x,hf (bl s) 26=x:=⟨_,rfl⟩
 rw[e26]at H26 b26 ⊢;clear e26;obtain⟨n0,e0⟩:∃x,s[0].toNat=x:=⟨_,rfl⟩
 rw[e0]at g0 ⊢;obtain⟨n1,e1⟩:∃x,s[1].toNat=x:=⟨_,rfl⟩
 rw[e1]at g1 ⊢;obtain⟨n9,e9⟩:∃x,s[9].toNat=x:=⟨_,rfl⟩
 rw[e9]at g9 ⊢;by_cases c0:n0=69
 ·skip
  by_cases c1:n1%4=0
  ·skip
   by_cases c2:x2=s.size
   ·skip
    by_cases c3:x6=0
    ·skip
     by_cases c4:n9=17
     ·skip
      by_cases c5:x24+20=s.size
      ·skip
       by_cases c6:Va=0
       ·skip
        rw[decide_eq_true c0,decide_eq_true c1,decide_eq_true c2,decide_eq_true c3,decide_eq_true c4,decide_eq_true c5,decide_eq_true c6];show Calls _ _ _ _ fun e w'=>e=.returned (.bool true)∧_
        have i0:((n0:Int)=69):=by omega
        have i1:((n1:Int)%4=0):=by omega
        have i2:((x2:Int)=s.size):=by omega
        have i3:((x6:Int)=0):=by omega
        have i4:((n9:Int)=17):=by omega
        have i5:((x24:Int)=(s.size:Int)-20):=by omega
        have i6:((Va:Int)=0):=by omega
        have i7:((Va:Int)==0)=true:=by rw[i6];rfl
        clear c0 c1 c2 c3 c4 c5 c6
        go_enter Tryz.func86,Tryz.ntmps86
        go_wp2_with fail
        refine(H2.out _).mono ?_;rintro e w1 ⟨rfl,hk1⟩;have ax:=ae (hk1);clear hk1
        go_wp2_with fail
        refine(H6.out _).mono ?_;rintro e w2 ⟨rfl,hk2⟩;have ak:=ae (ax.out.trans hk2);clear hk2
        go_wp2_with fail
        refine(YZ.out _).mono ?_;rintro e w3 ⟨rfl,hk3⟩;have aF:=ae (ak.out.trans hk3);clear hk3
        go_wp2_with fail
        refine(H26.out _).mono ?_;rintro e w4 ⟨rfl,hk4⟩;have aH:=ae (aF.out.trans hk4);clear hk4
        go_wp2_with fail
        go_ret
        exact⟨rfl,aH.out⟩
       ·rw[decide_eq_true c0,decide_eq_true c1,decide_eq_true c2,decide_eq_true c3,decide_eq_true c4,decide_eq_true c5,decide_eq_false c6];show Calls _ _ _ _ fun e w'=>e=.returned (.bool false)∧_
        have i0:((n0:Int)=69):=by omega
        have i1:((n1:Int)%4=0):=by omega
        have i2:((x2:Int)=s.size):=by omega
        have i3:((x6:Int)=0):=by omega
        have i4:((n9:Int)=17):=by omega
        have i5:((x24:Int)=(s.size:Int)-20):=by omega
        have i6:¬((Va:Int)=0):=by omega
        have i7:((Va:Int)==0)=false:=beq_eq_false_iff_ne.2 i6;clear c0 c1 c2 c3 c4 c5 c6
        go_enter Tryz.func86,Tryz.ntmps86
        go_wp2_with fail
        refine(H2.out _).mono ?_;rintro e w1 ⟨rfl,hk1⟩;have ax:=ae (hk1);clear hk1
        go_wp2_with fail
        refine(H6.out _).mono ?_;rintro e w2 ⟨rfl,hk2⟩;have ak:=ae (ax.out.trans hk2);clear hk2
        go_wp2_with fail
        refine(YZ.out _).mono ?_;rintro e w3 ⟨rfl,hk3⟩;have aF:=ae (ak.out.trans hk3);clear hk3
        go_wp2_with fail
        refine(H26.out _).mono ?_;rintro e w4 ⟨rfl,hk4⟩;have aH:=ae (aF.out.trans hk4);clear hk4
        go_wp2_with fail
        go_ret
        exact⟨rfl,aH.out⟩
      ·rw[decide_eq_true c0,decide_eq_true c1,decide_eq_true c2,decide_eq_true c3,decide_eq_true c4,decide_eq_false c5];show Calls _ _ _ _ fun e w'=>e=.returned (.bool false)∧_
       have i0:((n0:Int)=69):=by omega
       have i1:((n1:Int)%4=0):=by omega
       have i2:((x2:Int)=s.size):=by omega
       have i3:((x6:Int)=0):=by omega
       have i4:((n9:Int)=17):=by omega
       have i5:¬((x24:Int)=(s.size:Int)-20):=by omega
       clear c0 c1 c2 c3 c4 c5
       go_enter Tryz.func86,Tryz.ntmps86
       go_wp2_with fail
       refine(H2.out _).mono ?_;rintro e w1 ⟨rfl,hk1⟩;have ax:=ae (hk1);clear hk1
       go_wp2_with fail
       refine(H6.out _).mono ?_;rintro e w2 ⟨rfl,hk2⟩;have ak:=ae (ax.out.trans hk2);clear hk2
       go_wp2_with fail
       refine(YZ.out _).mono ?_;rintro e w3 ⟨rfl,hk3⟩;have aF:=ae (ak.out.trans hk3);clear hk3
       go_wp2_with fail
       go_ret
       exact⟨rfl,aF.out⟩
     ·rw[decide_eq_true c0,decide_eq_true c1,decide_eq_true c2,decide_eq_true c3,decide_eq_false c4];show Calls _ _ _ _ fun e w'=>e=.returned (.bool false)∧_
      have i0:((n0:Int)=69):=by omega
      have i1:((n1:Int)%4=0):=by omega
      have i2:((x2:Int)=s.size):=by omega
      have i3:((x6:Int)=0):=by omega
      have i4:¬((n9:Int)=17):=by omega
      clear c0 c1 c2 c3 c4
      go_enter Tryz.func86,Tryz.ntmps86
      go_wp2_with fail
      refine(H2.out _).mono ?_;rintro e w1 ⟨rfl,hk1⟩;have ax:=ae (hk1);clear hk1
      go_wp2_with fail
      refine(H6.out _).mono ?_;rintro e w2 ⟨rfl,hk2⟩;have ak:=ae (ax.out.trans hk2);clear hk2
      go_wp2_with fail
      go_ret
      exact⟨rfl,ak.out⟩
    ·rw[decide_eq_true c0,decide_eq_true c1,decide_eq_true c2,decide_eq_false c3];show Calls _ _ _ _ fun e w'=>e=.returned (.bool false)∧_
     have i0:((n0:Int)=69):=by omega
     have i1:((n1:Int)%4=0):=by omega
     have i2:((x2:Int)=s.size):=by omega
     have i3:¬((x6:Int)=0):=by omega
     clear c0 c1 c2 c3
     go_enter Tryz.func86,Tryz.ntmps86
     go_wp2_with fail
     refine(H2.out _).mono ?_;rintro e w1 ⟨rfl,hk1⟩;have ax:=ae (hk1);clear hk1
     go_wp2_with fail
     refine(H6.out _).mono ?_;rintro e w2 ⟨rfl,hk2⟩;have ak:=ae (ax.out.trans hk2);clear hk2
     go_wp2_with fail
     go_ret
     exact⟨rfl,ak.out⟩
   ·rw[decide_eq_true c0,decide_eq_true c1,decide_eq_false c2];show Calls _ _ _ _ fun e w'=>e=.returned (.bool false)∧_
    have i0:((n0:Int)=69):=by omega
    have i1:((n1:Int)%4=0):=by omega
    have i2:¬((x2:Int)=s.size):=by omega
    clear c0 c1 c2
    go_enter Tryz.func86,Tryz.ntmps86
    go_wp2_with fail
    refine(H2.out _).mono ?_;rintro e w1 ⟨rfl,hk1⟩;have ax:=ae (hk1);clear hk1
    go_wp2_with fail
    go_ret
    exact⟨rfl,ax.out⟩
  ·rw[decide_eq_true c0,decide_eq_false c1];show Calls _ _ _ _ fun e w'=>e=.returned (.bool false)∧_
   have i0:((n0:Int)=69):=by omega
   have i1:¬((n1:Int)%4=0):=by omega
   clear c0 c1
   go_enter Tryz.func86,Tryz.ntmps86
   go_wp2_with fail
   go_ret
   exact⟨rfl,Kp.refl _ _⟩
 ·rw[decide_eq_false c0];show Calls _ _ _ _ fun e w'=>e=.returned (.bool false)∧_
  have i0:¬((n0:Int)=69):=by omega
  clear c0
  go_enter Tryz.func86,Tryz.ntmps86
  go_wp2_with fail
  go_ret
  exact⟨rfl,Kp.refl _ _⟩
end Go.Proofs.YtjiehhlghjnfhaaGreatDoor
namespace Go.Proofs.YtjiehhlghjnfhaaGreatDoor
open Go Go.RowKit
theorem RZ {S:Nat→Prop} {a w:World} (h:Kp S a w) {g:Nat} (hg:S g∨a.heap.size≤g) (cs:Array Value):Kp S a (w.setRow g cs):=
 ⟨h.os,h.tape,h.output,by rw[size_setRow];exact h.size,fun i hi hs=>(setRow_other w g i cs (fun e=>by subst e;rcases hg with hg|hg;(exact hs hg);omega)).trans (h.block i hi hs)⟩
theorem NY {w:World} {g:Nat} {old cs:List Value} {t:TypeId} (h:ag w g old t):ag (w.setRow g cs.toArray) g cs t:=⟨setRow_heap w g _ _ t _ h.is⟩
theorem IB {w:World} {g b:Nat} {cs:List Value} {t:TypeId} (h:ag w b cs t) (hne:b≠g) (x:Array Value):ag (w.setRow g x) b cs t:=⟨(setRow_other w g b x hne).trans h.is⟩
theorem Qj {cs:List Value} (h:∀v∈cs,v.oneCell'=true):cs.toArray.all (·.oneCell')=true:=by
 rw[Array.all_eq_true_iff_forall_mem];intro x hx;exact h x (by simpa using hx)
theorem fF {P:Program} {ops:Array Oper} {rest:List Oper} {o:Oper} {a:Act} {Q:Exit→Act→World→Prop} (hgd:o.guard=none) (ty:TypeId) (x y:Operand) (ho:o.op=.store ty x y) {w:World} {g:Nat} {old:List Value} {t:TypeId} (hb:ag w g old t) (cs:List Value)
 (hx:a.eval x=.pointer (some ⟨g,0,none⟩)) (hy:a.eval y=.agg cs.toArray) (hi:(P.info? ty).map (·.size)=some cs.length) (hold:old.length=cs.length) (h1:∀v∈cs,v.oneCell'=true)
 (h:∀W2,ag W2 g cs t→(∀b cs' t',ag w b cs' t'→b≠g→ag W2 b cs' t')→(∀(S:Nat→Prop) a,Kp S a w→(S g∨a.heap.size≤g)→Kp S a W2)→wpList P ops Q rest (a.put o.dst undef) W2):wpList P ops Q (o::rest) a w:=
 wpList_store_row hgd ty x y ho g cs.toArray hx hy t old.toArray hb.is (by rw[List.size_toArray];exact hi) (by rw[List.size_toArray,List.size_toArray];exact hold) (Qj h1)
  (h _ (NY hb) (fun _ _ _ k hne=>IB k hne _) (fun _ _ k hg=>RZ k hg _))
theorem BJ {P:Program} {ops:Array Oper} {rest:List Oper} {o:Oper} {a:Act} {w:World} {Q:Exit→Act→World→Prop} (hgd:o.guard=none) (ty:TypeId) (x:Operand) (ho:o.op=.load ty x) {g:Nat} {cs:List Value} {t:TypeId} (hb:ag w g cs t) (d:TypeDesc)
 (hx:a.eval x=.pointer (some ⟨g,0,none⟩)) (hu:P.underlying ty=some d) (hd:(match d with| .struct _| .array _ _=>true|_=>false)=true) (hi:(P.info? ty).map (·.size)=some cs.length)
 (h:wpList P ops Q rest (a.put o.dst (.agg cs.toArray)) w):wpList P ops Q (o::rest) a w:=
 wpList_load_row hgd ty x ho g hx t cs.toArray (0,0) d hb.is hu hd (by rw[List.size_toArray];exact hi) h
theorem xP {g:Nat} {t:TypeId}:∀(vs:List Value) (o:Nat) (w:World) (old:List Value),ag w g old t→ag (w.setCells g o vs) g (gG old o vs) t
 | [],_,_,_,h=>h
 |v::r,o,_,_,h=>xP r (o+1) _ _ (h.set o v)
theorem uV {g b:Nat} {cs:List Value} {t:TypeId} (hne:b≠g):∀(vs:List Value) (o:Nat) (w:World),ag w b cs t→ag (w.setCells g o vs) b cs t
 | [],_,_,h=>h
 |v::r,o,_,h=>uV hne r (o+1) _ (h.bY (a:=⟨g,o,none⟩) hne v)
theorem jK {S:Nat→Prop} {a:World} {g:Nat} (hg:S g∨a.heap.size≤g):∀(vs:List Value) (o:Nat) (w:World),Kp S a w→Kp S a (w.setCells g o vs)
 | [],_,_,h=>h
 |v::r,o,_,h=>jK hg r (o+1) _ (h.set (p:=⟨g,o,none⟩) hg v)
theorem qK {P:Program} {ops:Array Oper} {rest:List Oper} {op:Oper} {a:Act} {Q:Exit→Act→World→Prop} (hgd:op.guard=none) (ty:TypeId) (x y:Operand) (ho:op.op=.store ty x y) {w:World} {g:Nat} {old:List Value} {t:TypeId} (hb:ag w g old t) (o:Nat) (cs:List Value)
 (hx:a.eval x=.pointer (some ⟨g,o,none⟩)) (hy:a.eval y=.agg cs.toArray) (hi:(P.info? ty).map (·.size)=some cs.length) (hin:o+cs.length≤old.length) (h1:∀v∈cs,v.oneCell'=true)
 (h:∀W2,ag W2 g (gG old o cs) t→(∀b cs' t',ag w b cs' t'→b≠g→ag W2 b cs' t')→(∀(S:Nat→Prop) a,Kp S a w→(S g∨a.heap.size≤g)→Kp S a W2)→wpList P ops Q rest (a.put op.dst undef) W2):wpList P ops Q (op::rest) a w:=by
 refine wpList_store_mid hgd ty x y ho g o cs.toArray hx hy ?_ (by rw[List.size_toArray];exact hi) (Qj h1) ?_
 ·intro j hj;rw[List.size_toArray]at hj;refine⟨?_,hb.fz _⟩;rw[hb.cell (o+j) (List.getElem?_eq_getElem (show o+j<old.length by omega))];rfl
 ·exact h _ (xP _ _ _ _ hb) (fun _ _ _ k hne=>uV hne _ _ _ k) (fun _ _ k hg=>jK hg _ _ _ k)
theorem R_ {P:Program} {ops:Array Oper} {rest:List Oper} {o:Oper} {a:Act} {w:World} {Q:Exit→Act→World→Prop} (hgd:o.guard=none) (t:TypeId) (parts:Array (Nat×Operand)) (ho:o.op=.build t parts) (v:Value)
 (h1:(Instr.build t (parts.map fun(i,x)=>(i,a.eval x))).run P w=.ok v w) (h:wpList P ops Q rest (a.put o.dst v) w):wpList P ops Q (o::rest) a w:=
 wpList_plain hgd fun _ hK=>by
  unfold Oper.wp execOp;simp only[ho,Sem.run_bind,h1,Result.andThen_ok,Sem.run_pure];exact hK _ _ h
theorem Dz {P:Program} {f:Func} {s:Tmp} {ty:TypeId} (hf:f.results=#[.cell s ty]) {R:Ending→World→Prop} {W:World} {g:Nat} {cs:List Value} {t:TypeId} {T:Array Value} (hb:ag W g cs t) (d:TypeDesc) (hu:P.underlying ty=some d) (hd:(match d with| .struct _| .array _ _=>true|_=>false)=true)
 (hi:(P.info? ty).map (·.size)=some cs.length) (h2:T.getD s undef=.pointer (some ⟨g,0,none⟩)) (hR:R (.returned (.agg cs.toArray)) W):bodyPost P f R Exit.ret {tmps:=T,defers:=[]} W:=
 bodyPost_ret (v:=.agg cs.toArray) (results_cell_row hf T W g t cs.toArray (0,0) d h2 hb.is hu hd (by rw[List.size_toArray];exact hi)) rfl hR
theorem iJ {P:Program} {f:Func} {s u:Tmp} {ty:TypeId} (hf:f.results=#[.cell s ty,.tmp u]) {R:Ending→World→Prop} {W:World} {g:Nat} {cs:List Value} {t:TypeId} {T:Array Value} (hb:ag W g cs t) (d:TypeDesc) (hu:P.underlying ty=some d) (hd:(match d with| .struct _| .array _ _=>true|_=>false)=true)
 (hi:(P.info? ty).map (·.size)=some cs.length) (h2:T.getD s undef=.pointer (some ⟨g,0,none⟩)) (hR:R (.returned (.tuple #[.agg cs.toArray,T.getD u undef])) W):bodyPost P f R Exit.ret {tmps:=T,defers:=[]} W:=by
 refine bodyPost_ret (v:=.tuple #[.agg cs.toArray,T.getD u undef]) ?_ rfl hR;have h2':T[s]?.getD undef=.pointer (some ⟨g,0,none⟩):=by simpa using h2
 simp[results,hf,h2',asAddr,run_loadVar_row W g t ty cs.toArray (0,0) d hb.is hu hd (by rw[List.size_toArray];exact hi)]
end Go.Proofs.YtjiehhlghjnfhaaGreatDoor
