/- A shaper's Do: time goes by, how it stands, refusals (layer 26). Printed by wip/shdo.py 2. -/
import Derived.Test.YtjiehhlghjnfhaaGreatDoorMTopLineF28
set_option linter.unusedVariables false
set_option linter.unusedSimpArgs false
set_option maxHeartbeats 8000000
namespace Go.Proofs.YtjiehhlghjnfhaaGreatDoor
open Go Go.RowKit Go.Shelf
theorem Ih {w:World} {f:kQ} {s:Sh} (h:ShM w f s) (c:Nat) (hc:c<32):
 Calls Tryz.prog 112 #[.pointer (some ⟨f.sb,0,none⟩),.int .i64 c] w fun e w'=>e=.returned (.int .i64 c)∧ShM w' f (kV s c)∧Kp (fun b=>b=f.sb) w w':=by
 have hx:c<s.ref.length:=by rw[h.ok.len];exact hc
 refine(Ig h.top c (s.ref.getD c 0) hc (Rl s f hx) (by rw[List.getD_eq_getElem?_getD,List.getElem?_eq_getElem hx];exact h.ok.ref _ (List.getElem_mem hx))).mono ?_;rintro e w' ⟨h1,h2,h3⟩;rw[Nr]at h2;exact⟨h1,{h with top:=h2,gate:=h.gate.kp h3 (fun b hb e=>h.sg (e▸hb)),ranks:=h.ranks.kp h3 (fun b hb e=>h.sr (e▸hb)),back:=h.back.kp h3 (fun b hb e=>h.sk (e▸hb)),ok:=MR h.ok c},h3⟩
theorem BD {P:Program} {ops:Array Oper} {rest:List Oper} {op:Oper} {a:Act} {Q:Exit→Act→World→Prop} (hgd:op.guard=none) (ty:TypeId) (x y:Operand) (ho:op.op=.store ty x y) {w:World} {b:Nat} {cs:List Value} {t:TypeId} (hb:ag w b cs t) (o:Nat) (vs:List Value) (hl:o+vs.length=cs.length)
 (hx:a.eval x=.pointer (some ⟨b,o,none⟩)) (hy:a.eval y=.agg vs.toArray) (DC:(P.info? ty).map (·.size)=some vs.length) (h1:vs.all (·.oneCell')=true)
 (h:∀W2,ag W2 b (cs.take o++vs) t→Kp (fun z=>z=b) w W2→wpList P ops Q rest (a.put op.dst undef) W2):wpList P ops Q (op::rest) a w:=by
 refine wpList_store_mid hgd ty x y ho b o vs.toArray hx hy ?_ (by rw[List.size_toArray];exact DC) (by simpa using h1) ?_
 ·intro j hj;rw[List.size_toArray]at hj;refine⟨?_,hb.fz _⟩;rw[hb.cell (o+j) (List.getElem?_eq_getElem (by omega))];rfl
 ·refine h _ ?_ (jK (S:=fun z=>z=b) (.inl rfl) _ _ _ (Kp.refl _ _));have:=hb.setCells vs o;rw[uP vs o cs hl]at this;exact this
set_option maxRecDepth 100000 in
theorem aaJ {w:World} {f:kQ} {s:Sh} (kind:Int) (fl id ln tk:Nat) (h:ShM w f s) (hkd:jr kind=5):
 Calls Tryz.prog 58 #[.pointer (some ⟨f.sb,0,none⟩),.agg #[.int .i64 kind,.int .u32 fl,.int .u32 id,.int .u64 ln,.int .u64 tk]] w fun e w'=>e=.returned (.agg ((mY 5 2 0 0 0 0 oP,kV s 2)).1.toArray)∧iD w f ((mY 5 2 0 0 0 0 oP,kV s 2)).2 w':=by
 have wG:Hid (∀W,Calls Tryz.prog 106 #[.int .i64 kind] W fun e w'=>e=.returned (.int .i64 5)∧W=w'):=ae (fun W=>by have:=xw kind W;rw[hkd]at this;exact this);have HM:=ae h;have HL:Hid (∀z,f.all z→z<w.heap.size):=ae (fun z hz=>h.lt hz);obtain⟨t5,x5,gu,ge,gp,hv,hbc⟩:=h.back.c;have HV:=ae hv;have hsl:=h.top.lt;have c5:=h.top.cell 5 rfl;rw[hv]at c5;refine ay ?_;intro PP HP;clear h hkd hv hbc;obtain⟨sb,hsb⟩:∃sb,f.sb=sb:=⟨_,rfl⟩
 rw[hsb]at hsl c5 ⊢;have tV:=ae hsb;clear hsb;have ho0:=ag.new w [.int .i64 kind,.int .u32 fl,.int .u32 id,.int .u64 ln,.int .u64 tk] 73;have nG:=ae ho0;have hz0:=ag.new (w.alloc (.cells #[.int .i64 kind,.int .u32 fl,.int .u32 id,.int .u64 ln,.int .u64 tk] 73)) afA 64;have e1:(w.alloc (.cells #[.int .i64 kind,.int .u32 fl,.int .u32 id,.int .u64 ln,.int .u64 tk] 73)).heap.size=w.heap.size+1:=by simp
 rw[e1]at hz0;have HZ0:=ae hz0;have hz1:=ag.new ((w.alloc (.cells #[.int .i64 kind,.int .u32 fl,.int .u32 id,.int .u64 ln,.int .u64 tk] 73)).alloc (.cells afz 64)) afA 64;have e2:((w.alloc (.cells #[.int .i64 kind,.int .u32 fl,.int .u32 id,.int .u64 ln,.int .u64 tk] 73)).alloc (.cells afz 64)).heap.size=w.heap.size+2:=by simp
 rw[e2]at hz1;have HZ1:=ae hz1;have aB:=ae ((((Kp.refl none' w).alloc (.cells #[.int .i64 kind,.int .u32 fl,.int .u32 id,.int .u64 ln,.int .u64 tk] 73)).alloc (.cells afz 64)).alloc (.cells afz 64));clear hz0 hz1 e1 e2 ho0
 go_enter Tryz.func58,Tryz.ntmps58
 go_wp2_with fail
 refine(wG.out _).mono ?_;rintro e w' ⟨rfl,rfl⟩
 go_wp2_with(first
  |(refine aP rfl 64 (.tmp 5) (.tmp 9) rfl HZ1.out afD rfl rfl rfl aZ rfl ?_
    intro W2 hb2 hk2;have HB2:=ae hb2;have ak:=ae hk2;clear hb2 hk2;have fP:Kp none' w W2:=aB.out.then ak.out (fun b hb e=>by omega)
    have HZ2:=ae ((HZ0.out.alloc (.cells afz 64)).kp ak.out (fun e=>by omega));have gq:=ae (((nG.out.alloc (.cells afz 64)).alloc (.cells afz 64)).kp ak.out (fun e=>by omega));have oU:=ae fP;have d5:=fP.cell c5 (fun x=>x);have eP:=ae (HM.out.old fP);have hs2:=HB2.out.lt;have b0:=HB2.out.cell 0 rfl
    skip
    clear HZ0 HZ1 nG aB ak wG HM fP c5))
 have hc2:Calls Tryz.prog 112 #[.pointer (some ⟨f.sb,0,none⟩),.int .i64 2] W2 fun e w'=>e=.returned (.int .i64 2)∧ShM w' f (kV s 2)∧Kp (fun b=>b=f.sb) W2 w':=Ih eP.out 2 (by decide)
 rw[tV.out]at hc2;refine hc2.mono ?_;rintro e W3 ⟨rfl,CG,k3⟩;have HB3:=ae (HB2.out.kp k3 (fun e=>by omega));have HZ3:=ae (HZ2.out.kp k3 (fun e=>by omega));have b1:=HB3.out.cell 1 rfl;have bz:=HB3.out.fz 1;have HB4:=ae (HB3.out.set 1 (.int .i64 2));have ks:Kp (fun z=>z=w.heap.size+2) W3 (W3.setCell ⟨w.heap.size+2,1,none⟩ (.int .i64 2)):=(Kp.refl (fun z=>z=w.heap.size+2) W3).set (p:=⟨w.heap.size+2,1,none⟩) (.inl rfl) _;have rY:=ae (HZ3.out.kp ks (fun e=>by omega));have KS:=ae ks;have vU:Hid (iD W2 f (kV s 2) W3):=ae ⟨f,CG,(by rw[←tV.out]at k3;exact k3.mono (fun z _ h=>.inl h)),Nw.refl _ _,rfl⟩;clear hc2 CG k3 ks b0
 go_wp2_with(first
  |(refine wpList_load_mid rfl 64 (.tmp 5) rfl (w.heap.size+2) 0 rfl (afD.set 1 (.int .i64 2)) _ (fun j v hv=>by rw[Nat.zero_add];exact HB4.out.cell j hv) Tryz.underlying64 rfl aZ ?_)
  |(refine aP rfl 64 (.tmp 4) (.tmp 67) rfl rY.out (afD.set 1 (.int .i64 2)) rfl rfl rfl aZ rfl ?_
    intro qG ig hk12;have iU:=ae ig;have jH:=ae hk12
    clear ig hk12))
 refine h_ (by exact rfl) iU.out _ Tryz.underlying64 rfl aZ (by exact rfl) (HP.out _ _ ⟨rfl,iD.wrap HL.out oU.out vU.out ((KS.out.mono (fun z _ e=>by omega)).trans (jH.out.mono (fun z _ e=>by omega)))⟩)
set_option maxRecDepth 100000 in
theorem aaK {w:World} {f:kQ} {s:Sh} (kind:Int) (fl id ln tk:Nat) (h:ShM w f s) (hkd:jr kind=0):
 Calls Tryz.prog 58 #[.pointer (some ⟨f.sb,0,none⟩),.agg #[.int .i64 kind,.int .u32 fl,.int .u32 id,.int .u64 ln,.int .u64 tk]] w fun e w'=>e=.returned (.agg ((mY 0 1 0 0 0 0 oP,kV s 1)).1.toArray)∧iD w f ((mY 0 1 0 0 0 0 oP,kV s 1)).2 w':=by
 have wG:Hid (∀W,Calls Tryz.prog 106 #[.int .i64 kind] W fun e w'=>e=.returned (.int .i64 0)∧W=w'):=ae (fun W=>by have:=xw kind W;rw[hkd]at this;exact this);have HM:=ae h;have HL:Hid (∀z,f.all z→z<w.heap.size):=ae (fun z hz=>h.lt hz);obtain⟨t5,x5,gu,ge,gp,hv,hbc⟩:=h.back.c;have HV:=ae hv;have hsl:=h.top.lt;have c5:=h.top.cell 5 rfl;rw[hv]at c5;refine ay ?_;intro PP HP;clear h hkd hv hbc;obtain⟨sb,hsb⟩:∃sb,f.sb=sb:=⟨_,rfl⟩
 rw[hsb]at hsl c5 ⊢;have tV:=ae hsb;clear hsb;have ho0:=ag.new w [.int .i64 kind,.int .u32 fl,.int .u32 id,.int .u64 ln,.int .u64 tk] 73;have nG:=ae ho0;have hz0:=ag.new (w.alloc (.cells #[.int .i64 kind,.int .u32 fl,.int .u32 id,.int .u64 ln,.int .u64 tk] 73)) afA 64;have e1:(w.alloc (.cells #[.int .i64 kind,.int .u32 fl,.int .u32 id,.int .u64 ln,.int .u64 tk] 73)).heap.size=w.heap.size+1:=by simp
 rw[e1]at hz0;have HZ0:=ae hz0;have hz1:=ag.new ((w.alloc (.cells #[.int .i64 kind,.int .u32 fl,.int .u32 id,.int .u64 ln,.int .u64 tk] 73)).alloc (.cells afz 64)) afA 64;have e2:((w.alloc (.cells #[.int .i64 kind,.int .u32 fl,.int .u32 id,.int .u64 ln,.int .u64 tk] 73)).alloc (.cells afz 64)).heap.size=w.heap.size+2:=by simp
 rw[e2]at hz1;have HZ1:=ae hz1;have aB:=ae ((((Kp.refl none' w).alloc (.cells #[.int .i64 kind,.int .u32 fl,.int .u32 id,.int .u64 ln,.int .u64 tk] 73)).alloc (.cells afz 64)).alloc (.cells afz 64));clear hz0 hz1 e1 e2 ho0
 go_enter Tryz.func58,Tryz.ntmps58
 go_wp2_with fail
 refine(wG.out _).mono ?_;rintro e w' ⟨rfl,rfl⟩
 go_wp2_with(first
  |(refine aP rfl 64 (.tmp 5) (.tmp 9) rfl HZ1.out afA rfl rfl rfl aZ rfl ?_
    intro W2 hb2 hk2;have HB2:=ae hb2;have ak:=ae hk2;clear hb2 hk2;have fP:Kp none' w W2:=aB.out.then ak.out (fun b hb e=>by omega)
    have HZ2:=ae ((HZ0.out.alloc (.cells afz 64)).kp ak.out (fun e=>by omega));have gq:=ae (((nG.out.alloc (.cells afz 64)).alloc (.cells afz 64)).kp ak.out (fun e=>by omega));have oU:=ae fP;have d5:=fP.cell c5 (fun x=>x);have eP:=ae (HM.out.old fP);have hs2:=HB2.out.lt;have b0:=HB2.out.cell 0 rfl
    skip
    clear HZ0 HZ1 nG aB ak wG HM fP c5))
 have hc2:Calls Tryz.prog 112 #[.pointer (some ⟨f.sb,0,none⟩),.int .i64 1] W2 fun e w'=>e=.returned (.int .i64 1)∧ShM w' f (kV s 1)∧Kp (fun b=>b=f.sb) W2 w':=Ih eP.out 1 (by decide)
 rw[tV.out]at hc2;refine hc2.mono ?_;rintro e W3 ⟨rfl,CG,k3⟩;have HB3:=ae (HB2.out.kp k3 (fun e=>by omega));have HZ3:=ae (HZ2.out.kp k3 (fun e=>by omega));have b1:=HB3.out.cell 1 rfl;have bz:=HB3.out.fz 1;have HB4:=ae (HB3.out.set 1 (.int .i64 1));have ks:Kp (fun z=>z=w.heap.size+2) W3 (W3.setCell ⟨w.heap.size+2,1,none⟩ (.int .i64 1)):=(Kp.refl (fun z=>z=w.heap.size+2) W3).set (p:=⟨w.heap.size+2,1,none⟩) (.inl rfl) _;have rY:=ae (HZ3.out.kp ks (fun e=>by omega));have KS:=ae ks;have vU:Hid (iD W2 f (kV s 1) W3):=ae ⟨f,CG,(by rw[←tV.out]at k3;exact k3.mono (fun z _ h=>.inl h)),Nw.refl _ _,rfl⟩;clear hc2 CG k3 ks b0
 go_wp2_with(first
  |(refine wpList_load_mid rfl 64 (.tmp 5) rfl (w.heap.size+2) 0 rfl (afA.set 1 (.int .i64 1)) _ (fun j v hv=>by rw[Nat.zero_add];exact HB4.out.cell j hv) Tryz.underlying64 rfl aZ ?_)
  |(refine aP rfl 64 (.tmp 4) (.tmp 67) rfl rY.out (afA.set 1 (.int .i64 1)) rfl rfl rfl aZ rfl ?_
    intro qG ig hk12;have iU:=ae ig;have jH:=ae hk12
    clear ig hk12))
 refine h_ (by exact rfl) iU.out _ Tryz.underlying64 rfl aZ (by exact rfl) (HP.out _ _ ⟨rfl,iD.wrap HL.out oU.out vU.out ((KS.out.mono (fun z _ e=>by omega)).trans (jH.out.mono (fun z _ e=>by omega)))⟩)
set_option maxRecDepth 100000 in
theorem Yo {w:World} {f:kQ} {s:Sh} (kind:Int) (fl id ln tk:Nat) (h:ShM w f s) (hkd:jr kind=4):
 Calls Tryz.prog 58 #[.pointer (some ⟨f.sb,0,none⟩),.agg #[.int .i64 kind,.int .u32 fl,.int .u32 id,.int .u64 ln,.int .u64 tk]] w fun e w'=>e=.returned (.agg ((mY 4 0 0 0 0 0 (ny s),s)).1.toArray)∧iD w f ((mY 4 0 0 0 0 0 (ny s),s)).2 w':=by
 obtain⟨h36,Yp⟩:=Yn h.ok.len;have HST:=ae (fun W (k:ShM W f s)=>aaH k);obtain⟨sc,hsc⟩:∃sc,ny s=sc:=⟨_,rfl⟩
 rw[hsc]at h36 Yp HST ⊢;have wG:Hid (∀W,Calls Tryz.prog 106 #[.int .i64 kind] W fun e w'=>e=.returned (.int .i64 4)∧W=w'):=ae (fun W=>by have:=xw kind W;rw[hkd]at this;exact this);have HM:=ae h;have HL:Hid (∀z,f.all z→z<w.heap.size):=ae (fun z hz=>h.lt hz);obtain⟨t5,x5,gu,ge,gp,hv,hbc⟩:=h.back.c;have HV:=ae hv;have hsl:=h.top.lt;have c5:=h.top.cell 5 rfl;rw[hv]at c5;refine ay ?_;intro PP HP;clear h hkd hv hbc hsc;obtain⟨sb,hsb⟩:∃sb,f.sb=sb:=⟨_,rfl⟩
 rw[hsb]at hsl c5 ⊢;have tV:=ae hsb;clear hsb;have ho0:=ag.new w [.int .i64 kind,.int .u32 fl,.int .u32 id,.int .u64 ln,.int .u64 tk] 73;have nG:=ae ho0;have hz0:=ag.new (w.alloc (.cells #[.int .i64 kind,.int .u32 fl,.int .u32 id,.int .u64 ln,.int .u64 tk] 73)) afA 64;have e1:(w.alloc (.cells #[.int .i64 kind,.int .u32 fl,.int .u32 id,.int .u64 ln,.int .u64 tk] 73)).heap.size=w.heap.size+1:=by simp
 rw[e1]at hz0;have HZ0:=ae hz0;have hz1:=ag.new ((w.alloc (.cells #[.int .i64 kind,.int .u32 fl,.int .u32 id,.int .u64 ln,.int .u64 tk] 73)).alloc (.cells afz 64)) afA 64;have e2:((w.alloc (.cells #[.int .i64 kind,.int .u32 fl,.int .u32 id,.int .u64 ln,.int .u64 tk] 73)).alloc (.cells afz 64)).heap.size=w.heap.size+2:=by simp
 rw[e2]at hz1;have HZ1:=ae hz1;have aB:=ae ((((Kp.refl none' w).alloc (.cells #[.int .i64 kind,.int .u32 fl,.int .u32 id,.int .u64 ln,.int .u64 tk] 73)).alloc (.cells afz 64)).alloc (.cells afz 64));clear hz0 hz1 e1 e2 ho0
 go_enter Tryz.func58,Tryz.ntmps58
 go_wp2_with fail
 refine(wG.out _).mono ?_;rintro e w' ⟨rfl,rfl⟩
 go_wp2_with(first
  |(refine aP rfl 64 (.tmp 5) (.tmp 9) rfl HZ1.out afC rfl rfl rfl aZ rfl ?_
    intro W2 hb2 hk2;have HB2:=ae hb2;have ak:=ae hk2;clear hb2 hk2;have fP:Kp none' w W2:=aB.out.then ak.out (fun b hb e=>by omega)
    have HZ2:=ae ((HZ0.out.alloc (.cells afz 64)).kp ak.out (fun e=>by omega));have gq:=ae (((nG.out.alloc (.cells afz 64)).alloc (.cells afz 64)).kp ak.out (fun e=>by omega));have oU:=ae fP;have d5:=fP.cell c5 (fun x=>x);have eP:=ae (HM.out.old fP);have hs2:=HB2.out.lt;have b0:=HB2.out.cell 0 rfl
    skip
    clear HZ0 HZ1 nG aB ak wG HM fP c5))
 have hc2:=HST.out W2 eP.out;rw[tV.out]at hc2;refine hc2.mono ?_;rintro e W3 ⟨rfl,k3⟩;have HB3:=ae (HB2.out.kp k3 (fun x=>x));have HZ3:=ae (HZ2.out.kp k3 (fun x=>x));have vU:Hid (iD W2 f s W3):=ae ⟨f,eP.out.old k3,k3.mono (fun z _ h=>h.elim),Nw.refl _ _,rfl⟩;have hlen:((afC:List Value).take 6++sc).length=42:=by rw[List.length_append,h36];rfl
 have hone:((afC:List Value).take 6++sc).all (·.oneCell')=true:=by rw[List.all_append,Yp];rfl
 clear hc2 k3 b0
 go_wp2_with(first
  |(refine BD rfl 59 (.tmp 61) (.tmp 60) rfl HB3.out 6 sc (by rw[h36];rfl) rfl rfl (by rw[h36];exact FI) Yp ?_
    intro W4 hb4 hk4;have HB4:=ae hb4;have rY:=ae (HZ3.out.kp hk4 (fun e=>by omega));have aH:=ae hk4
    clear hb4 hk4)
  |(refine wpList_load_mid rfl 64 (.tmp 5) rfl (w.heap.size+2) 0 rfl ((afC:List Value).take 6++sc) _ (fun j v hv=>by rw[Nat.zero_add];exact HB4.out.cell j hv) Tryz.underlying64 rfl (by rw[hlen];exact aZ) ?_)
  |(refine aP rfl 64 (.tmp 4) (.tmp 67) rfl rY.out ((afC:List Value).take 6++sc) (by rw[hlen];rfl) rfl rfl (by rw[hlen];exact aZ) hone ?_
    intro qG ig hk12;have iU:=ae ig;have jH:=ae hk12
    clear ig hk12))
 refine h_ (by exact rfl) iU.out _ Tryz.underlying64 rfl (by rw[hlen];exact aZ) (by exact rfl) (HP.out _ _ ⟨rfl,iD.wrap HL.out oU.out vU.out ((aH.out.mono (fun z _ e=>by omega)).trans (jH.out.mono (fun z _ e=>by omega)))⟩)
set_option maxRecDepth 100000 in
theorem aaL {w:World} {f:kQ} {s:Sh} (kind:Int) (fl id ln tk:Nat) (h:ShM w f s) (hkd:jr kind=3) (htk:tk<18446744073709551616):
 Calls Tryz.prog 58 #[.pointer (some ⟨f.sb,0,none⟩),.agg #[.int .i64 kind,.int .u32 fl,.int .u32 id,.int .u64 ln,.int .u64 tk]] w fun e w'=>e=.returned (.agg ((mY 3 0 0 0 0 0 oP,{s with now:=dS s.now tk,tok:=n_ s.rate s.aQ s.tok tk})).1.toArray)∧iD w f ((mY 3 0 0 0 0 0 oP,{s with now:=dS s.now tk,tok:=n_ s.rate s.aQ s.tok tk})).2 w':=by
 have Yq:Hid (∀W,Calls Tryz.prog 109 #[.int .u64 s.now,.int .u64 tk] W fun e w'=>e=.returned (.int .u64 (dS s.now tk))∧Kp none' W w'):=ae (fun W=>(QF s.now tk h.ok.now htk W).mono fun e w' h=>⟨h.1,h.2▸Kp.refl none' _⟩);have JP:=ae (fun W=>acr s.rate s.aQ s.tok tk h.ok.rate.1 h.ok.aQ.1 h.ok.tok h.ok.rate.2 h.ok.aQ.2 htk W);have jl:Hid ({s with now:=dS s.now tk,tok:=n_ s.rate s.aQ s.tok tk}:Sh).Ok:=ae {h.ok with now:=vS _ _,tok:=Nat.min_le_right _ _};obtain⟨Cj,Yr⟩:∃x,dS s.now tk=x:=⟨_,rfl⟩
 obtain⟨tok2,Yt⟩:∃x,n_ s.rate s.aQ s.tok tk=x:=⟨_,rfl⟩
 simp only[Yr,Yt]at Yq JP jl ⊢;have htop:=h.top;unfold qE at htop;obtain⟨rate,vO⟩:∃x,s.rate=x:=⟨_,rfl⟩
 obtain⟨aQ,Dp⟩:∃x,s.aQ=x:=⟨_,rfl⟩
 obtain⟨tok,htok⟩:∃x,s.tok=x:=⟨_,rfl⟩
 obtain⟨now,xY⟩:∃x,s.now=x:=⟨_,rfl⟩
 rw[vO,Dp,htok,xY]at htop;rw[vO,Dp,htok]at JP;rw[xY]at Yq;have Yg:Hid (qE ({s with now:=Cj,tok:=tok2}:Sh) f=[.pointer (some ⟨f.gb,0,none⟩),.pointer (some ⟨f.rb,0,none⟩),.int .u64 rate,.int .u64 aQ,.int .u64 tok2,f.v,.int .u64 Cj]++s.ref.map lG):=ae (by rw[←vO,←Dp];rfl);have l_:=ae htop;have wG:Hid (∀W,Calls Tryz.prog 106 #[.int .i64 kind] W fun e w'=>e=.returned (.int .i64 3)∧W=w'):=ae (fun W=>by have:=xw kind W;rw[hkd]at this;exact this);have HM:=ae h;have HL:Hid (∀z,f.all z→z<w.heap.size):=ae (fun z hz=>h.lt hz);obtain⟨t5,x5,gu,ge,gp,hv,hbc⟩:=h.back.c;have HV:=ae hv;have hsl:=h.top.lt;have c5:=h.top.cell 5 rfl;rw[hv]at c5;refine ay ?_;intro PP HP;clear h hkd hv hbc vO Dp htok xY Yr Yt htop htk;obtain⟨sb,hsb⟩:∃sb,f.sb=sb:=⟨_,rfl⟩
 rw[hsb]at hsl c5 ⊢;have tV:=ae hsb;clear hsb;have ho0:=ag.new w [.int .i64 kind,.int .u32 fl,.int .u32 id,.int .u64 ln,.int .u64 tk] 73;have nG:=ae ho0;have hz0:=ag.new (w.alloc (.cells #[.int .i64 kind,.int .u32 fl,.int .u32 id,.int .u64 ln,.int .u64 tk] 73)) afA 64;have e1:(w.alloc (.cells #[.int .i64 kind,.int .u32 fl,.int .u32 id,.int .u64 ln,.int .u64 tk] 73)).heap.size=w.heap.size+1:=by simp
 rw[e1]at hz0;have HZ0:=ae hz0;have hz1:=ag.new ((w.alloc (.cells #[.int .i64 kind,.int .u32 fl,.int .u32 id,.int .u64 ln,.int .u64 tk] 73)).alloc (.cells afz 64)) afA 64;have e2:((w.alloc (.cells #[.int .i64 kind,.int .u32 fl,.int .u32 id,.int .u64 ln,.int .u64 tk] 73)).alloc (.cells afz 64)).heap.size=w.heap.size+2:=by simp
 rw[e2]at hz1;have HZ1:=ae hz1;have aB:=ae ((((Kp.refl none' w).alloc (.cells #[.int .i64 kind,.int .u32 fl,.int .u32 id,.int .u64 ln,.int .u64 tk] 73)).alloc (.cells afz 64)).alloc (.cells afz 64));clear hz0 hz1 e1 e2 ho0
 go_enter Tryz.func58,Tryz.ntmps58
 go_wp2_with fail
 refine(wG.out _).mono ?_;rintro e w' ⟨rfl,rfl⟩
 go_wp2_with(first
  |(refine aP rfl 64 (.tmp 5) (.tmp 9) rfl HZ1.out afE rfl rfl rfl aZ rfl ?_
    intro W2 hb2 hk2;have HB2:=ae hb2;have ak:=ae hk2;clear hb2 hk2;have fP:Kp none' w W2:=aB.out.then ak.out (fun b hb e=>by omega)
    have HZ2:=ae ((HZ0.out.alloc (.cells afz 64)).kp ak.out (fun e=>by omega));have gq:=ae (((nG.out.alloc (.cells afz 64)).alloc (.cells afz 64)).kp ak.out (fun e=>by omega));have oU:=ae fP;have d5:=fP.cell c5 (fun x=>x);have eP:=ae (HM.out.old fP);have hs2:=HB2.out.lt;have b0:=HB2.out.cell 0 rfl;have ht2:=l_.out.kp fP (fun x=>x);rw[tV.out]at ht2;have HT2:=ae ht2;have d6:=HT2.out.cell 6 rfl;have o4:=gq.out.cell 4 rfl
    clear HZ0 HZ1 nG aB ak wG HM fP c5))
 refine af [] [0,1,2,3,4,5,6,7,8,9] 10 (by kernel_rfl) (by kernel_rfl) (fun c a d u w h=>by cases d<;>exact h) ?_;simp only[pick,bn];show aA _ _ _ _ _ _
 repeat((first
  |refine ah (by exact rfl) (by as_aux_lemma=>intro W hK;have e0:=hK.cell d6 (fun x=>x);have e1:=hK.cell o4 (fun x=>x);go_simp;exact rfl) ?_
  |refine ai (by exact rfl) ?_
  |refine au (by exact rfl) (by as_aux_lemma=>intro W;go_simp;exact⟨rfl,rfl⟩) (by intro W hK;with_reducible first|exact Yq.out W) ?_);simp only[Act.put,aY])
 show ∀W,_→wpList _ _ _ _ _ _
 intro W3 hK3;have HT3:=ae (HT2.out.kp hK3 (fun x=>x));have pF:=ae (gq.out.kp hK3 (fun x=>x));have HB3:=ae (HB2.out.kp hK3 (fun x=>x));have HZ3:=ae (HZ2.out.kp hK3 (fun x=>x));have aF:=ae hK3;have d6:=HT3.out.cell 6 rfl;have dz:=HT3.out.fz 6;clear hK3
 go_upto_region 13 with fail
 have ht4:=HT3.out.set 6 (.int .u64 Cj);have k34:Kp (fun z=>z=sb) W3 (W3.setCell ⟨sb,6,none⟩ (.int .u64 Cj)):=(Kp.refl (fun z=>z=sb) W3).set (p:=⟨sb,6,none⟩) (.inl rfl) _;obtain⟨W4,nZ⟩:∃W4,W3.setCell ⟨sb,6,none⟩ (.int .u64 Cj)=W4:=⟨_,rfl⟩
 rw[nZ]at ht4 k34 ⊢;have HT4:Hid (ag W4 sb ([.pointer (some ⟨f.gb,0,none⟩),.pointer (some ⟨f.rb,0,none⟩),.int .u64 rate,.int .u64 aQ,.int .u64 tok,f.v,.int .u64 Cj]++s.ref.map lG) 212):=ae ht4;have rJ:=ae (pF.out.kp k34 (fun e=>by omega));have HB4:=ae (HB3.out.kp k34 (fun e=>by omega));have rY:=ae (HZ3.out.kp k34 (fun e=>by omega));have K24:Hid (Kp (fun z=>z=sb) W2 W4):=ae ((aF.out.mono (fun _ _ x=>x.elim)).trans k34);have e2:=HT4.out.cell 2 rfl;have e3:=HT4.out.cell 3 rfl;have e4:=HT4.out.cell 4 rfl;have o4:=rJ.out.cell 4 rfl;clear nZ ht4 k34 d6 dz HT3 pF HB3 HZ3 aF HT2 gq HB2 HZ2
 go_wp2_with fail
 refine af [] [0,1,2,3,4,5,6,7,8,9] 10 (by kernel_rfl) (by kernel_rfl) (fun c a d u w h=>by cases d<;>exact h) ?_;simp only[pick,bn];show aA _ _ _ _ _ _
 repeat((first
  |refine ah (by exact rfl) (by as_aux_lemma=>intro W hK;have q2:=hK.cell e2 (fun x=>x);have q3:=hK.cell e3 (fun x=>x);have q4:=hK.cell e4 (fun x=>x);have q5:=hK.cell o4 (fun x=>x);go_simp;exact rfl) ?_
  |refine ai (by exact rfl) ?_
  |refine au (by exact rfl) (by as_aux_lemma=>intro W;go_simp;exact⟨rfl,rfl⟩) (by intro W hK;with_reducible first|exact JP.out W) ?_);simp only[Act.put,aY])
 show ∀W,_→wpList _ _ _ _ _ _
 intro W5 hK5;have oN:=ae (HT4.out.kp hK5 (fun x=>x));have d_:=ae (HB4.out.kp hK5 (fun x=>x));have Gm:=ae (rY.out.kp hK5 (fun x=>x));have K25:Hid (Kp (fun z=>z=sb) W2 W5):=ae (K24.out.trans (hK5.mono (fun _ _ x=>x.elim)));have e2:=oN.out.cell 2 rfl;have e3:=oN.out.cell 3 rfl;have e4:=oN.out.cell 4 rfl;have ez:=fun j=>oN.out.fz j
 clear hK5 o4
 go_upto_region 18 with fail
 have O8:=((oN.out.set 2 (.int .u64 rate)).set 3 (.int .u64 aQ)).set 4 (.int .u64 tok2);have Yu:Kp (fun z=>z=sb) W5 (((W5.setCell ⟨sb,2,none⟩ (.int .u64 rate)).setCell ⟨sb,3,none⟩ (.int .u64 aQ)).setCell ⟨sb,4,none⟩ (.int .u64 tok2)):=(((Kp.refl (fun z=>z=sb) W5).set (p:=⟨sb,2,none⟩) (.inl rfl) _).set (p:=⟨sb,3,none⟩) (.inl rfl) _).set (p:=⟨sb,4,none⟩) (.inl rfl) _;obtain⟨W6,DZ⟩:∃W6,((W5.setCell ⟨sb,2,none⟩ (.int .u64 rate)).setCell ⟨sb,3,none⟩ (.int .u64 aQ)).setCell ⟨sb,4,none⟩ (.int .u64 tok2)=W6:=⟨_,rfl⟩
 rw[DZ]at O8 Yu ⊢;have yJ:Hid (ag W6 sb ([.pointer (some ⟨f.gb,0,none⟩),.pointer (some ⟨f.rb,0,none⟩),.int .u64 rate,.int .u64 aQ,.int .u64 tok2,f.v,.int .u64 Cj]++s.ref.map lG) 212):=ae O8;have HB4:=ae (d_.out.kp Yu (fun e=>by omega));have rY:=ae (Gm.out.kp Yu (fun e=>by omega));have K26:Hid (Kp (fun z=>z=sb) W2 W6):=ae (K25.out.trans Yu);have vU:Hid (iD W2 f ({s with now:=Cj,tok:=tok2}:Sh) W6):=by
  have hm:=eP.out;have k:=K26.out;refine ae ⟨f,{hm with top:= ?_,gate:=hm.gate.kp k (fun b hb e=>hm.sg (by rw[tV.out,←e];exact hb)),ranks:=hm.ranks.kp k (fun b hb e=>hm.sr (by rw[tV.out,←e];exact hb)),back:=hm.back.kp k (fun b hb e=>hm.sk (by rw[tV.out,←e];exact hb)),ok:=jl.out},k.mono (fun z _ e=>.inl (by rw[tV.out];exact e)),Nw.refl _ _,rfl⟩;rw[Yg.out,tV.out];exact yJ.out
 clear DZ O8 Yu e2 e3 e4 ez oN d_ Gm
 go_wp2_with(first
  |(refine wpList_load_mid rfl 64 (.tmp 5) rfl (w.heap.size+2) 0 rfl afE _ (fun j v hv=>by rw[Nat.zero_add];exact HB4.out.cell j hv) Tryz.underlying64 rfl aZ ?_)
  |(refine aP rfl 64 (.tmp 4) (.tmp 67) rfl rY.out afE rfl rfl rfl aZ rfl ?_
    intro qG ig hk12;have iU:=ae ig;have jH:=ae hk12
    clear ig hk12))
 refine h_ (by exact rfl) iU.out _ Tryz.underlying64 rfl aZ (by exact rfl) (HP.out _ _ ⟨rfl,iD.wrap HL.out oU.out vU.out (jH.out.mono (fun z _ e=>by omega))⟩)
theorem Ny {w:World} {f:kQ} {s:Sh} (o:yV) (h:ShM w f s) (iL:o.kind=2→Bz w f.all) (ho:o.ok) (hn:jv s.bk<9223372036854775807):
 Calls Tryz.prog 58 #[.pointer (some ⟨f.sb,0,none⟩),.agg (Uo o).toArray] w fun e w'=>e=.returned (.agg (xK s o).1.toArray)∧iD w f (xK s o).2 w':=by
 obtain⟨kind,fl,id,ln,tk⟩:=o;show Calls Tryz.prog 58 #[.pointer (some ⟨f.sb,0,none⟩),.agg #[.int .i64 kind,.int .u32 fl,.int .u32 id,.int .u64 ln,.int .u64 tk]] w _;unfold xK;split
 ·rename_i e;simp only at e;subst e;exact adf 1 fl id ln tk h rfl ho.jU ho.id ho.len hn
 ·split
  ·rename_i e;simp only at e;subst e;exact adg 2 fl id ln tk h rfl (iL rfl)
  ·split
   ·rename_i e;simp only at e;subst e;exact aaL 3 fl id ln tk h rfl ho.mO
   ·split
    ·rename_i e;simp only at e;subst e;exact Yo 4 fl id ln tk h rfl
    ·split
     ·rename_i e;simp only at e;subst e;exact aaJ 5 fl id ln tk h rfl
     ·rename_i h1 h2 h3 h4 h5
      simp only at h1 h2 h3 h4 h5;exact aaK kind fl id ln tk h (by unfold jr;split;rfl;omega)
end Go.Proofs.YtjiehhlghjnfhaaGreatDoor
