/- TopLine: for every list of acts and both choices, in every memory where math/bits' table holds what its initialiser lays, the law returns true and its arguments read as before; the card ties the table to the program's text. No further condition. -/
import Derived.Test.YtjiehhlghjnfhaaGreatDoorMTopLineF0
import Derived.ChangeMaps5
import Derived.ProofKit
import Derived.OpenShut
import Derived.Test.YtjiehhlghjnfhaaGreatDoorMTopLineF32
import Derived.Test.YtjiehhlghjnfhaaGreatDoorMTopLineF10
set_option linter.unusedVariables false
set_option linter.unusedSimpArgs false
set_option maxHeartbeats 8000000
namespace Go.Proofs.YtjiehhlghjnfhaaGreatDoor.topLine
open Go.ChangeShapes Go.WideShapes Go.ChangeAt Go.RowKit Go.Deep Go.Proofs.YtjiehhlghjnfhaaGreatDoor Go.ChangeMaps
set_option maxRecDepth 100000 in
theorem contract (H:Type) (enc:TypeId×Value→H) (W:World) (base:Nat) (args:Array Value) (ds gs:List (DataW H)) (before:List MemPlace)
 (hval:∀(j:Nat) t v,Tryz.f7.params[j]? =some t→args[j]? =some v→Value.okWide Tryz.prog W .any base t v)
 (hW:DataW.Whole enc Tryz.prog Tryz.f7.params.toList Rows.topLineSpec.vars false W args.toList ds gs before) (hL:laidMetH Tryz.prog Rows.topLineRow.laid W):
 Calls Tryz.prog 7 args W fun e W'=>∃v,e=.returned v∧Rows.topLineSpec.post enc Tryz.prog Tryz.f7 false true false false W args v W':=by
 have hW':=hW;obtain⟨p,q,hA0,hV,rfl,hfz,hnd⟩:=hW;have hA:DataW.TrodAll enc Tryz.prog W 0 (fun _=>true) true Tryz.f7.params.toList args.toList ds p:=hA0;rw[Tryz.params7]at hA hval;obtain⟨v0,vs0,d0,ds0,p0,q0,hargs,rfl,rfl,h0,r0⟩:=trodAll_cons hA;obtain⟨v1,vs1,d1,ds1,p1,q1,rfl,rfl,rfl,h1,r1⟩:=trodAll_cons r0;obtain⟨v2,vs2,d2,ds2,p2,q2,rfl,rfl,rfl,h2,r2⟩:=trodAll_cons r1;obtain⟨rfl,rfl,rfl⟩:=trodAll_nil r2;obtain rfl:args=#[v0,v1,v2]:=by cases args;simp_all
 obtain⟨s0,len0,cap0,rfl⟩:=okWide_slice Tryz.underlying29 (hval 0 29 v0 rfl rfl);obtain⟨fuel0,hf0⟩:=h0;obtain⟨v0,l0,hv0,hok0,hsl0⟩:=NP Tryz.underlying29 ocA (by decide) yK Bc.Ok Eo V7 hf0;obtain rfl:v0=.slice s0 len0 cap0:=by simp[Value.cells]at hv0;exact hv0.symm
 obtain rfl:len0=l0.length:=by obtain⟨_,_,e,_⟩:=hsl0.is;injection e
 obtain⟨b1,rfl,rfl,rfl⟩:=open_bool Tryz.underlying4 (hval 1 4 v1 rfl rfl) h1;obtain⟨b2,rfl,rfl,rfl⟩:=open_bool Tryz.underlying4 (hval 2 4 v2 rfl rfl) h2;refine(adu l0 hok0 b1 b2 _ W hsl0 (YV hL)).mono ?_;rintro e W' ⟨rfl,hk⟩;exact⟨_,rfl,RI 4 Tryz.underlying4 rfl (by kernel_rfl) (by rw[Tryz.params7];intro t ht;simp at ht;rcases ht with rfl|rfl;all_goals exact⟨by kernel_rfl,of_decide_eq_true (by kernel_rfl)⟩) rfl hW' rfl (hk.below (Nat.le_refl _) (fun _ _ h=>h))⟩
theorem reads (os:Os) {H:Type} (enc:TypeId×Value→H):∃places,DataW.whole enc Tryz.prog ((laidWorld os).forCall (fun _ _=>0) ⟨#[],#[.slice none 0 0,.bool false,.bool false],[]⟩).memory Tryz.f7.params.toList Rows.topLineSpec.vars false #[Value.slice none 0 0,Value.bool false,Value.bool false].toList 8=some ([.nil,.lit (.bool false),.lit (.bool false)],[],places):=
 ⟨[],by kernel_rfl⟩
set_option maxRecDepth 100000 in
theorem lifted (os:Os) (started:os.Started) (H:Type) (enc:TypeId×Value→H) (F:Stop.Interp):
 ReturnsInHanded {} Tryz.checked os 7 .any ((OpenSpec.ofChange Rows.topLineSpec).preRow enc Tryz.prog Tryz.f7 Rows.topLineRow.domain false Rows.topLineRow.laid) (((OpenSpec.ofChange Rows.topLineSpec).at F).post enc Tryz.prog Tryz.f7 false true false false):=by
 obtain⟨places,hx⟩:=reads os enc;refine returnsInHanded_of_row (C:=Tryz.checked) (s:=OpenSpec.ofChange Rows.topLineSpec) ab_ started (by kernel_rfl) Tryz.func7
  (witness_row_at (enc:=enc) (C:=Tryz.checked) false (laidWorld os) #[.slice none 0 0,.bool false,.bool false] rfl (by kernel_rfl) (by kernel_rfl) (by kernel_rfl)
   (OpenSpec.preRow_of_cond 8 hx (by kernel_rfl) (fun k hk=>by cases hk) (by kernel_rfl) (laid_met os _))) ?_
 intro W base args ds gs before hval hW _ _ _ hL _ _;exact contract H enc W base args ds gs before hval hW hL
theorem facts:joinedFacts Tryz.prog 7 Tryz.f7 (OpenSpec.ofChange Rows.topLineSpec).bare Rows.topLineRow=true:=by
 unfold joinedFacts;simp only[Bool.and_eq_true];repeat' (first|apply And.intro)
 all_goals(as_aux_lemma=>kernel_rfl)
theorem said:Rows.TopLineSaid:=
 OpenClaim.holds_of_cond 7 Tryz.f7 rfl rfl rfl rfl rfl rfl rfl ⟨rfl,rfl,rfl,rfl,rfl⟩ rfl rfl rfl rfl rfl (by kernel_rfl) Tryz.func7 facts
  (of_decide_eq_true (by kernel_rfl)) (by unfold Func.isWrapper;first|(rw[if_pos (by decide+kernel)];kernel_rfl)|(rw[if_neg (by decide+kernel)];exact⟨rfl,rfl⟩))
  (fun os started H enc _ F=>by rw[OpenClaim.pre_eq_preRow];exact lifted os started H enc F)
theorem plain (f:FuncId) (fn:Func) (hf:Tryz.pinned.checked.prog.funcNamed "pacemaker/pacemakertop.TopLine"=some f) (hfn:Tryz.pinned.checked.prog.funcs[f]? =some fn):
 false=Tryz.pinned.checked.prog.looks []∧∀(j:Nat) t,fn.params[j]? =some t→Tryz.pinned.checked.prog.wantsStandIn t=false:=by
 obtain rfl:f=7:=Option.some.inj ((show Tryz.prog.funcNamed "pacemaker/pacemakertop.TopLine"=some 7 by kernel_rfl).symm.trans hf) |>.symm
 obtain rfl:fn=Tryz.f7:=(Option.some.inj (Tryz.func7.symm.trans hfn)).symm;refine⟨by kernel_rfl,fun j t ht=> ?_⟩;rw[Tryz.params7]at ht;have hm:=Array.mem_of_getElem? ht;simp at hm
 rcases hm with rfl|rfl
 ·exact(show Tryz.prog.wantsStandIn 29=false by kernel_rfl)
 ·exact(show Tryz.prog.wantsStandIn 4=false by kernel_rfl)
theorem card:Rows.TopLineCardSaid:=
 Claim7.holds_tied_plain_at .later [] _ _ _ _ said (fun _ h=>by cases h) (by kernel_rfl) (fun _ h=>by cases h) topLine_row_tie rfl ⟨rfl,rfl⟩ (by kernel_rfl) rfl plain (by kernel_rfl)
#print axioms card
end Go.Proofs.YtjiehhlghjnfhaaGreatDoor.topLine
