/- DeviceApart: for every configuration of a device, every list of acts and every number, in every memory where math/bits' table holds what its initialiser lays, the law returns true and its arguments read as before; the card ties the table to the program's text. No further condition. -/
import Derived.Test.YtincjochpkdnfaaGreatDoorV43
set_option linter.all false
set_option maxHeartbeats 8000000
set_option maxRecDepth 100000
namespace Go.Proofs.YtincjochpkdnfaaGreatDoor
namespace deviceApart
open Go.ChangeShapes Go.WideShapes Go.ChangeAt Go.RowKit Go.Deep Go.ChangeMaps
theorem nB(H:Type)(enc:TypeId×Value->H)(W:World)(base:Nat)(args:Array Value)(ds gs:List (DataW H))(before:List MemPlace)
 (a:∀(j:Nat) t v,Tryz.f3.params[j]? =some t->args[j]? =some v->Value.okWide Tryz.prog W .any base t v)
 (w:DataW.Whole enc Tryz.prog Tryz.f3.params.toList Rows.deviceApartSpec.vars false W args.toList ds gs before) (A:laidMetH Tryz.prog Rows.deviceApartRow.laid W):
 Calls Tryz.prog 3 args W λe x=>∃v,e=.returned v/\Rows.deviceApartSpec.post enc Tryz.prog Tryz.f3 false true false false W args v x:=by
 have g:=w;obtain⟨p,q,i,R,rfl,B,C⟩:=w;have y:DataW.TrodAll enc Tryz.prog W 0 (λ_=>true) true Tryz.f3.params.toList args.toList ds p:=i;rw[Tryz.params3]at y a
 obtain⟨v0,D,d0,E,S,T,k,rfl,rfl,F,G⟩:=trodAll_cons y;obtain⟨v1,I,d1,J,U,V,rfl,rfl,rfl,K,r1⟩:=trodAll_cons G;obtain⟨v2,L,d2,M,X,Y,rfl,rfl,rfl,N,r2⟩:=trodAll_cons r1;obtain⟨rfl,rfl,rfl⟩:=trodAll_nil r2;obtain rfl:args=#[v0,v1,v2]:=by cases args;simp_all
 obtain⟨O,l,room,batch,pv,Z,rfl,m,n,o,r⟩:=wA (a 0 25 v0 rfl rfl) F;obtain⟨s1,b,cap1,rfl⟩:=okWide_slice Tryz.underlying26 (a 1 26 v1 rfl rfl);obtain⟨s,u⟩:=K;obtain⟨v1,z,d,f,c⟩:=gn Tryz.underlying26 Eu (by decide) iW jR.Ok mz tP u;obtain rfl:v1=.slice s1 b cap1:=by simp[Value.cells]at d;exact d.symm
 obtain rfl:b=z.length:=by obtain⟨_,_,e,_⟩:=c.is;injection e
 obtain⟨a2,rfl,rfl,rfl,P⟩:=open_int Tryz.underlying3 (a 2 3 v2 rfl rfl) N;refine(CV O l room batch z f n a2 (bI P) _ _ _ W m o r c (wh A)).mono ?_;rintro e x ⟨rfl,Q⟩;exact⟨_,rfl,qj 4 Tryz.underlying4 rfl (by kernel_rfl) (by rw[Tryz.params3];intro t ht;simp at ht;rcases ht with rfl|rfl|rfl;all_goals exact⟨by kernel_rfl,Ji (by kernel_rfl)⟩) rfl g rfl (Q.below (Hm _) (λ_ _ h=>h))⟩
theorem reads(os:Os){H:Type}(enc:TypeId×Value->H):∃places,DataW.whole enc Tryz.prog ((h0 os).forCall (λ_ _=>0) ⟨#[],#[.agg Hc,.slice none 0 0,.int .i64 0],[]⟩).memory Tryz.f3.params.toList Rows.deviceApartSpec.vars false #[Value.agg Hc,Value.slice none 0 0,Value.int .i64 0].toList 8=some ([.agg [.nil,.nil,.lit (.int .i64 0),.lit (.int .i64 0)],.nil,.lit (.int .i64 0)],[],places):=
 ⟨[],by kernel_rfl⟩
theorem lifted(os:Os)(started:os.Started)(H:Type)(enc:TypeId×Value->H)(F:Stop.Interp):
 ReturnsInHanded {} Tryz.checked os 3 .any ((OpenSpec.ofChange Rows.deviceApartSpec).preRow enc Tryz.prog Tryz.f3 Rows.deviceApartRow.domain false Rows.deviceApartRow.laid) (((OpenSpec.ofChange Rows.deviceApartSpec).at F).post enc Tryz.prog Tryz.f3 false true false false):=by
 obtain⟨places,b⟩:=reads os enc;refine returnsInHanded_of_row (C:=Tryz.checked) (s:=OpenSpec.ofChange Rows.deviceApartSpec) zD started (by kernel_rfl) Tryz.func3
  (witness_row_at (enc:=enc) (C:=Tryz.checked) false (h0 os) #[.agg Hc,.slice none 0 0,.int .i64 0] rfl (by kernel_rfl) (by kernel_rfl) (by kernel_rfl)
   (OpenSpec.preRow_of_cond 8 b (by kernel_rfl) (λk c=>by cases c) (by kernel_rfl) (qX os _))) ?_
 intro W base args ds gs before a d _ _ _ e _ _;exact nB H enc W base args ds gs before a d e
theorem facts:joinedFacts Tryz.prog 3 Tryz.f3 (OpenSpec.ofChange Rows.deviceApartSpec).bare Rows.deviceApartRow=true:=by
 unfold joinedFacts;simp only[HS];repeat' (first|apply And.intro)
 all_goals(as_aux_lemma=>kernel_rfl)
theorem said:Rows.DeviceApartSaid:=
 OpenClaim.holds_of_cond 3 Tryz.f3 rfl rfl rfl rfl rfl rfl rfl ⟨rfl,rfl,rfl,rfl,rfl⟩ rfl rfl rfl rfl rfl (by kernel_rfl) Tryz.func3 facts
  (Ji (by kernel_rfl)) (by unfold Func.isWrapper;first|(rw[Hl (by decide+kernel)];kernel_rfl)|(rw[Hk (by decide+kernel)];exact⟨rfl,rfl⟩))
  (λos started H enc _ F=>by rw[OpenClaim.pre_eq_preRow];exact lifted os started H enc F)
theorem plain(f:FuncId)(fn:Func)(hf:Tryz.pinned.checked.prog.funcNamed "pacemaker/pacemakerlaw37.DeviceApart"=some f)(a:Tryz.pinned.checked.prog.funcs[f]? =some fn):
 false=Tryz.pinned.checked.prog.looks []/\∀(j:Nat) t,fn.params[j]? =some t->Tryz.pinned.checked.prog.wantsStandIn t=false:=by
 obtain rfl:f=3:=Option.some.inj ((show Tryz.prog.funcNamed "pacemaker/pacemakerlaw37.DeviceApart"=some 3 by kernel_rfl).symm.trans hf) |>.symm;obtain rfl:fn=Tryz.f3:=(Option.some.inj (Tryz.func3.symm.trans a)).symm;refine⟨by kernel_rfl,λj t ht=> ?_⟩;rw[Tryz.params3]at ht
 have hm:=Kz ht;simp at hm;rcases hm with rfl|rfl|rfl
 ·exact(show Tryz.prog.wantsStandIn 25=false by kernel_rfl)
 ·exact(show Tryz.prog.wantsStandIn 26=false by kernel_rfl)
 ·exact(show Tryz.prog.wantsStandIn 3=false by kernel_rfl)
theorem AI:Rows.DeviceApartCardSaid:=
 Claim7.holds_tied_plain_at .later [] _ _ _ _ said (λ_ h=>by cases h) (by kernel_rfl) (λ_ h=>by cases h) deviceApart_row_tie rfl ⟨rfl,rfl⟩ (by kernel_rfl) rfl plain (by kernel_rfl)
#print axioms AI
end deviceApart
end Go.Proofs.YtincjochpkdnfaaGreatDoor
