/- A port in memory (layer 36). -/
import Derived.Test.YtjiehhlghjnfhaaGreatDoorMTopLineF26
import Derived.Test.YtjiehhlghjnfhaaGreatDoorMTopLineF29
import Derived.Test.YtjiehhlghjnfhaaGreatDoorMTopLineF2
import Derived.Maps.OwnOps
import Derived.Maps.OwnSet
import Derived.Maps.Views
import Derived.Maps.StringElems
import Derived.Great.BuildSlice
import Derived.Test.YtjiehhlghjnfhaaGreatDoorMTopLineF21
set_option linter.unusedVariables false
set_option linter.unusedSimpArgs false
set_option maxHeartbeats 2000000
namespace Go.Proofs.YtjiehhlghjnfhaaGreatDoor
open Go Go.RowKit Go.Shelf Go.Maps
theorem JQ {S:Nat→Prop} {w w':World} {P:Program} {k:TypeId} {R:Value→Option (DataW Unit×List MemPlace)} {b n:Nat} {D:DataW Unit} (h:w.ownsMap P k R b n D) (k':Kp S w w') (hs:¬S b):w'.ownsMap P k R b n D:=by
 obtain⟨es,clock,hb,F,hs',hD⟩:=h;exact⟨es,clock,(k'.block b (Array.getElem?_eq_some_iff.1 hb).1 hs).trans hb,F,hs',hD⟩
abbrev kU (x:Int):Lit:=.int .u32 x
structure iM where
 pb:Nat
 mb:Nat
 tb:Nat
 lo:Nat
 hi:Nat
 sf:kQ
def iM.all (f:iM):Nat→Prop:=fun b=>b=f.pb∨b=f.mb∨f.sf.all b
def BF (p:Po) (f:iM):List Value:=[.pointer (some ⟨f.sf.sb,0,none⟩),.pointer (some ⟨f.tb,0,none⟩),.int .u64 p.m.rate,.int .u64 p.m.near,.int .u64 p.m.far,.int .u64 p.m.a,.int .u64 p.m.b,.int .u8 p.y,.map (some f.mb),.int .u32 p.num]
structure Po.Ok (p:Po):Prop where
 UR:∀r∈p.rl,r.Ok
 chk:oC p.rl=0
 mok:p.m.Ok
 y:p.y≤63
 num:p.num<4294967296
 wl:∀b,(p.wt b).length≤100000
structure wH (w:World) (mb num:Nat) (wt:Nat→List UInt8):Prop where
 is:∃n D,w.ownsMap Tryz.prog 42 (plainElem (H:=Unit) Tryz.prog 9) mb n D∧n≤num∧∀b:Nat,b<4294967296→D.atKey (kU b) (.lit (.string []))=.lit (.string (wt b))
theorem wH.kp {T:Nat→Prop} {w w':World} {mb num:Nat} {wt:Nat→List UInt8} (h:wH w mb num wt) (k:Kp T w w') (hT:¬T mb):wH w' mb num wt:=by
 obtain⟨n,D,h1,h2⟩:=h.is;exact⟨n,D,JQ h1 k hT,h2⟩
theorem wH.lt {w:World} {mb num:Nat} {wt:Nat→List UInt8} (h:wH w mb num wt):mb<w.heap.size:=by
 obtain⟨n,D,h1,_⟩:=h.is;exact h1.lt
theorem adh {x:Nat} (h:x<4294967296):(Lit.int .u32 (x:Int)).wf=true:=by simp[Lit.wf,IntKind.min,IntKind.max,IntKind.signed,IntKind.bits];omega
theorem JR (x:Nat) (h:x<4294967296):keyOf Tryz.prog 42 (.int .u32 (x:Int))=some (kU x):=keyOf_int_mk Tryz.underlying42 (adh h)
theorem aaM (x:Int):WideAt.IsKeyLit (kU x):=by simp[WideAt.IsKeyLit,kU]
theorem Ii (x:ByteArray) (h:x.size≤1000000):plainElem (H:=Unit) Tryz.prog 9 (.string x)=some (.lit (.string (bl x)),[]):=plainElem_string Tryz.underlying9 (by unfold maxLen;omega)
theorem wH.look {w:World} {mb num:Nat} {wt:Nat→List UInt8} (h:wH w mb num wt) (id:Nat) (hid:id<4294967296):
 ∀W,Kp none' w W→(Instr.lookup 120 (.map (some mb)) (.int .u32 (id:Int)) false).run Tryz.prog W=.ok (.string (tx (wt id))) W:=fun W k=>by
 obtain⟨n,D,h1,_,h3⟩:=h.is;obtain⟨v,ps,hrun,hv⟩:=(JQ h1 k (fun x=>x)).lookup (int_keyed Tryz.underlying42) Tryz.underlying120 (Tryz.zeroValue9 W) (Ii ⟨#[]⟩ (by decide)) (JR id hid);obtain⟨s,rfl,hs,_⟩:=plainElem_string_inv Tryz.underlying9 hv;have h4:=h3 id hid;have e0:bl (⟨#[]⟩:ByteArray)=[]:=rfl;rw[e0,h4]at hs;have h5:wt id=s.data.toList:=by
  have:=congrArg Prod.fst hs;simpa using this
 rw[hrun,h5];exact congrArg (fun x=>Result.ok (Value.string x) W) (aca s).symm
theorem wH.put {w w':World} {mb num n:Nat} {wt:Nat→List UInt8} {D:DataW Unit} (hown:w.ownsMap Tryz.prog 42 (plainElem (H:=Unit) Tryz.prog 9) mb n D) (hat:∀b:Nat,b<4294967296→D.atKey (kU b) (.lit (.string []))=.lit (.string (wt b))) (hn:n≤num) (id:Nat) (x:List UInt8)
 (h:w'.ownsMap Tryz.prog 42 (plainElem (H:=Unit) Tryz.prog 9) mb (n+1) (D.put (kU id) (.lit (.string x)))):wH w' mb (num+1) (fun k=>if k=id then x else wt k):=by
 refine⟨n+1,_,h,by omega,fun b hb=> ?_⟩;by_cases e:b=id
 ·subst e;rw[if_pos rfl];exact atKey_put_same hown.isMap (aaM _) _ _
 ·rw[if_neg e,atKey_put_other (fun hc=>e (by simp[kU]at hc;omega)),hat b hb]
theorem wH.del {w w':World} {mb num n:Nat} {wt:Nat→List UInt8} {D:DataW Unit} (hat:∀b:Nat,b<4294967296→D.atKey (kU b) (.lit (.string []))=.lit (.string (wt b))) (hn:n≤num) (id:Nat)
 (h:w'.ownsMap Tryz.prog 42 (plainElem (H:=Unit) Tryz.prog 9) mb n (D.del (kU id))):wH w' mb num (fun k=>if k=id then[]else wt k):=by
 refine⟨n,_,h,hn,fun b hb=> ?_⟩;by_cases e:b=id
 ·subst e;rw[if_pos rfl];exact atKey_del_same _
 ·rw[if_neg e,atKey_del_other (fun hc=>e (by simp[kU]at hc;omega)),hat b hb]
structure iC (w:World) (f:iM) (p:Po):Prop where
 top:ag w f.pb (BF p f) 125
 sh:ShM w f.sf p.s
 ru:PT w f.lo f.hi f.tb p.rl
 mp:wH w f.mb p.num p.wt
 n1:f.pb≠f.mb
 n2:¬f.sf.all f.pb
 n3:¬f.sf.all f.mb
 n4:¬(f.lo≤f.pb∧f.pb<f.hi)
 n5:¬(f.lo≤f.mb∧f.mb<f.hi)
 n6:∀b,f.sf.all b→¬(f.lo≤b∧b<f.hi)
 hi:f.hi≤w.heap.size
 ok:p.Ok
theorem iC.kp {T:Nat→Prop} {w w':World} {f:iM} {p:Po} (h:iC w f p) (k:Kp T w w') (hT:∀b,f.all b→¬T b) (hR:∀b,f.lo≤b→b<f.hi→¬T b):iC w' f p:=
 {h with top:=h.top.kp k (hT _ (.inl rfl)),sh:=h.sh.kp k (fun b hb=>hT b (.inr (.inr hb))),ru:=h.ru.kp k hR,mp:=h.mp.kp k (hT _ (.inr (.inl rfl))),hi:=Nat.le_trans h.hi k.size}
theorem iC.old {w w':World} {f:iM} {p:Po} (h:iC w f p) (k:Kp none' w w'):iC w' f p:=h.kp k (fun _ _ x=>x) (fun _ _ _ x=>x)
theorem iC.lt {w:World} {f:iM} {p:Po} (h:iC w f p) {b:Nat} (hb:f.all b):b<w.heap.size:=by
 rcases hb with rfl|rfl|hb
 ·exact h.top.lt
 ·exact h.mp.lt
 ·exact h.sh.lt hb
abbrev qX (w:World) (f:iM) (p':Po) (w':World):Prop:=∃f',iC w' f' p'∧Kp f.all w w'∧Nw w f.all f'.all∧f'.pb=f.pb∧f'.lo=f.lo∧f'.hi=f.hi
def P7 (p:Po) (n:Nat):Prop:=∀(w:World) (f:iM),ag w f.pb (BF p f) 125→Calls Tryz.prog 56 #[.pointer (some ⟨f.pb,0,none⟩),.int .u64 n] w fun e w'=>e=.returned (.int .i64 (jV p.m n).2)∧ag w' f.pb (BF {p with m:=(jV p.m n).1} f) 125∧Kp (fun b=>b=f.pb) w w'
set_option maxRecDepth 100000 in
theorem UT {w:World} {f:iM} {p:Po} (h:iC w f p) (s:ByteArray) (hs:s.size≤100000) (he:bZ (bl s)≠0):
 Calls Tryz.prog 14 #[.pointer (some ⟨f.pb,0,none⟩),.string s] w fun e w'=>e=.returned (.tuple #[.int .u32 0,.int .i64 (bZ (bl s))])∧Kp none' w w':=by
 have HT:=ae (fun W=>J6 s hs he W);have hc:=GI he;have c0:=h.top.cell 0 rfl;obtain⟨pb,hpb⟩:∃pb,f.pb=pb:=⟨_,rfl⟩
 rw[hpb]at c0 ⊢;obtain⟨c,hcc⟩:∃c,bZ (bl s)=c:=⟨_,rfl⟩
 rw[hcc]at HT hc ⊢;have hc0:¬c=0:=by omega
 clear h he hc hcc hpb
 go_enter Tryz.func14,Tryz.ntmps14
 go_wp2_with fail
 refine(HT.out _).mono ?_;rintro e w1 ⟨rfl,hk1⟩;have ax:=ae (hk1.alloc (.cells (fO CE).toArray 44));clear hk1;simp only[fO,CE]at*
 go_wp2_with fail
 go_ret2
 exact⟨rfl,ax.out⟩
theorem uU (l:List UInt8):(dV l).Ok:=⟨U3 _ _,U3 _ _,mg _ _⟩
set_option maxRecDepth 100000 in
theorem UU {w:World} {f:iM} {p:Po} (h:iC w f p) (hT:Tab w) (s:ByteArray) (hs:s.size≤100000) (he:bZ (bl s)=0) (hf:jg p.rl (dV (bl s)).n=none):
 Calls Tryz.prog 14 #[.pointer (some ⟨f.pb,0,none⟩),.string s] w fun e w'=>e=.returned (.tuple #[.int .u32 0,.int .i64 7])∧Kp none' w w':=by
 have HT:=ae (fun W=>pG s hs he W);have hfl:=fun W (k:Kp none' w W)=>JJ W f.tb p.rl h.ok.UR h.ok.chk ((h.old k).ru.rt) (hT.kp k (fun x=>x)) (dV (bl s)) (uU _)
 rw[hf]at hfl;have HF:=ae hfl;have HB:=ae h.top;obtain⟨pb,hpb⟩:∃pb,f.pb=pb:=⟨_,rfl⟩
 rw[hpb]at HB ⊢;obtain⟨H,hH⟩:∃H,dV (bl s)=H:=⟨_,rfl⟩
 rw[hH]at HT HF;have c0:=HB.out.cell 0 rfl;simp only[fO,Nl,Np]at HT HF;obtain⟨ds,id,eX,sr,d,sp,dp⟩:=H;simp only at HT HF;clear h he hpb hH hT hf hfl
 go_enter Tryz.func14,Tryz.ntmps14
 go_wp2_with fail
 refine(HT.out _).mono ?_;rintro e w1 ⟨rfl,hk1⟩;have sJ:=ae (ag.new w1 [.int .u8 ds,.int .u16 id,.int .u8 eX,.int .u32 sr,.int .u32 d,.int .u16 sp,.int .u16 dp] 44);have ax:=ae (hk1.alloc (.cells #[.int .u8 ds,.int .u16 id,.int .u8 eX,.int .u32 sr,.int .u32 d,.int .u16 sp,.int .u16 dp] 44));have d1:=(HB.out.kp ax.out (fun x=>x)).cell 1 rfl;clear hk1 c0
 go_upto_region 6 with fail
 refine af [] [0,1,2,3,4,5,6,7,8,9] 10 (by kernel_rfl) (by kernel_rfl) (fun c a d u w h=>by cases d<;>exact h) ?_;simp only[pick,bn];show aA _ _ _ _ _ _
 repeat((first
  |refine ah (by exact rfl) (sG sJ.out _ Tryz.underlying44 rfl jL rfl rfl) ?_
  |refine ah (by exact rfl) (by as_aux_lemma=>intro W hK;have e1:=hK.cell d1 (fun x=>x);go_simp;exact rfl) ?_
  |refine ai (by exact rfl) ?_
  |refine au (by exact rfl) (by as_aux_lemma=>intro W;go_simp;exact⟨rfl,rfl⟩) (by intro W hK;with_reducible first|exact HF.out W (ax.out.trans hK)) ?_);simp only[Act.put,aY])
 show ∀W,_→wpList _ _ _ _ _ _
 intro W2 hK2;have ak:=ae (ax.out.trans hK2);clear hK2 sJ ax
 go_wp2_with fail
 go_ret2
 exact⟨rfl,ak.out⟩
set_option maxRecDepth 100000 in
theorem Yv {w:World} {f:iM} {p:Po} (h:iC w f p) (hT:Tab w) (s:ByteArray) (hs:s.size≤100000) (he:bZ (bl s)=0) (fl:Nat) (hf:jg p.rl (dV (bl s)).n=some fl) (ho:jh (bl s)≠0):
 Calls Tryz.prog 14 #[.pointer (some ⟨f.pb,0,none⟩),.string s] w fun e w'=>e=.returned (.tuple #[.int .u32 0,.int .i64 (jh (bl s))])∧Kp none' w w':=by
 have HT:=ae (fun W=>pG s hs he W);have HO:=ae (fun W=>Qn s hs ho W);have hfl:=fun W (k:Kp none' w W)=>JJ W f.tb p.rl h.ok.UR h.ok.chk ((h.old k).ru.rt) (hT.kp k (fun x=>x)) (dV (bl s)) (uU _)
 rw[hf]at hfl;have HF:=ae hfl;have HB:=ae h.top;obtain⟨pb,hpb⟩:∃pb,f.pb=pb:=⟨_,rfl⟩
 rw[hpb]at HB ⊢;obtain⟨H,hH⟩:∃H,dV (bl s)=H:=⟨_,rfl⟩
 rw[hH]at HT HF;have c0:=HB.out.cell 0 rfl;simp only[fO,Nl,Np]at HT HF;obtain⟨ds,id,eX,sr,d,sp,dp⟩:=H;simp only at HT HF;obtain⟨c,hcc⟩:∃c,jh (bl s)=c:=⟨_,rfl⟩
 rw[hcc]at HO ho ⊢;clear h he hpb hH hT hf hfl hcc
 go_enter Tryz.func14,Tryz.ntmps14
 go_wp2_with fail
 refine(HT.out _).mono ?_;rintro e w1 ⟨rfl,hk1⟩;have sJ:=ae (ag.new w1 [.int .u8 ds,.int .u16 id,.int .u8 eX,.int .u32 sr,.int .u32 d,.int .u16 sp,.int .u16 dp] 44);have ax:=ae (hk1.alloc (.cells #[.int .u8 ds,.int .u16 id,.int .u8 eX,.int .u32 sr,.int .u32 d,.int .u16 sp,.int .u16 dp] 44));have d1:=(HB.out.kp ax.out (fun x=>x)).cell 1 rfl;clear hk1 c0
 go_upto_region 6 with fail
 refine af [] [0,1,2,3,4,5,6,7,8,9] 10 (by kernel_rfl) (by kernel_rfl) (fun c a d u w h=>by cases d<;>exact h) ?_;simp only[pick,bn];show aA _ _ _ _ _ _
 repeat((first
  |refine ah (by exact rfl) (sG sJ.out _ Tryz.underlying44 rfl jL rfl rfl) ?_
  |refine ah (by exact rfl) (by as_aux_lemma=>intro W hK;have e1:=hK.cell d1 (fun x=>x);go_simp;exact rfl) ?_
  |refine ai (by exact rfl) ?_
  |refine au (by exact rfl) (by as_aux_lemma=>intro W;go_simp;exact⟨rfl,rfl⟩) (by intro W hK;with_reducible first|exact HF.out W (ax.out.trans hK)) ?_);simp only[Act.put,aY])
 show ∀W,_→wpList _ _ _ _ _ _
 intro W2 hK2;have ak:=ae (ax.out.trans hK2);clear hK2 sJ ax
 go_wp2_with fail
 refine(HO.out _).mono ?_;rintro e w3 ⟨rfl,hk3⟩;have aF:=ae (ak.out.trans hk3);clear hk3
 go_wp2_with fail
 go_ret2
 exact⟨rfl,aF.out⟩
theorem iC.col {w w':World} {f:iM} {p:Po} (h:iC w f p) {m:Mt} (hb:ag w' f.pb (BF {p with m:=m} f) 125) (k:Kp (fun b=>b=f.pb) w w') (hm:m.Ok):iC w' f {p with m:=m}:=
 {h with top:=hb,sh:=h.sh.kp k (fun b hb e=>h.n2 (e▸hb)),ru:=h.ru.kp k (fun b h1 h2 e=>h.n4 (e▸⟨h1,h2⟩)),mp:=h.mp.kp k (fun e=>h.n1 e.symm),hi:=Nat.le_trans h.hi k.size,ok:= {h.ok with mok:=hm}}
theorem iC.Nz {w w':World} {f:iM} {p:Po} (h:iC w f p) {s':Sh} (ht:iD w f.sf s' w'):∃f',iC w' {f with sf:=f'} {p with s:=s'}∧Kp f.all w w'∧Nw w f.all ({f with sf:=f'}:iM).all∧f'.sb=f.sf.sb:=by
 obtain⟨f',hm,hk,hn,hs⟩:=ht;have xC:¬f'.all f.pb:=fun e=>by rcases hn _ e with e|e;exact h.n2 e;(have:=h.top.lt;omega)
 have hnm:¬f'.all f.mb:=fun e=>by rcases hn _ e with e|e;exact h.n3 e;(have:=h.mp.lt;omega)
 refine⟨f',{h with top:= ?_,sh:=hm,ru:=h.ru.kp hk (fun b h1 h2 e=>h.n6 b e ⟨h1,h2⟩),mp:=h.mp.kp hk h.n3,n2:=xC,n3:=hnm,n6:= ?_,hi:=Nat.le_trans h.hi hk.size,ok:= {h.ok with}},hk.mono (fun b _ hb=>.inr (.inr hb)),?_,hs⟩
 ·have:=h.top.kp hk h.n2;show ag w' f.pb (BF {p with s:=s'} {f with sf:=f'}) _;have e:BF {p with s:=s'} {f with sf:=f'}=BF p f:=by simp only[BF,hs]
  rw[e];exact this
 ·intro b hb;rintro⟨h1,h2⟩;rcases hn _ hb with e|e
  ·exact h.n6 b e ⟨h1,h2⟩
  ·have:=h.hi;have h3:b<f.hi:=h2;omega
 ·intro b hb;rcases hb with hb|hb|hb
  ·exact .inl (.inl hb)
  ·exact .inl (.inr (.inl hb))
  ·rcases hn _ hb with e|e
   ·exact .inl (.inr (.inr e))
   ·exact .inr e
theorem iC.wait {w w':World} {f:iM} {p:Po} (h:iC w f p) {num:Nat} {wt:Nat→List UInt8} (hb:ag w' f.pb (BF {p with num:=num,wt:=wt} f) 125) (hm:wH w' f.mb num wt) (k:Kp (fun b=>b=f.pb∨b=f.mb) w w') (hn:num<4294967296) (hl:∀b,(wt b).length≤100000):
 iC w' f {p with num:=num,wt:=wt}:=
 {h with top:=hb,sh:=h.sh.kp k (fun b hb e=>by rcases e with e|e;exact h.n2 (e▸hb);exact h.n3 (e▸hb)),ru:=h.ru.kp k (fun b h1 h2 e=>by rcases e with e|e;exact h.n4 (e▸⟨h1,h2⟩);exact h.n5 (e▸⟨h1,h2⟩)),mp:=hm,hi:=Nat.le_trans h.hi k.size,ok:= {h.ok with num:=hn,wl:=hl}}
theorem qX.trans {w w1 w2:World} {f f1:iM} {p2:Po} (k:Kp f.all w w1) (n:Nw w f.all f1.all) (e:f1.pb=f.pb∧f1.lo=f.lo∧f1.hi=f.hi) (h:qX w1 f1 p2 w2):qX w f p2 w2:=by
 obtain⟨f2,h1,h2,h3,h4,h5,h6⟩:=h;exact⟨f2,h1,k.steps n h2,n.trans h3 k.size,h4.trans e.1,h5.trans e.2.1,h6.trans e.2.2⟩
theorem NC {l:List UInt8} (h:bZ l=0):(lU l).length=l.length:=by
 have h28:=(qL h).1;unfold lU AV;rw[yg (by rw[yg (by omega)];omega),yg (by omega)]
theorem ND {m:Mt} (h:m.Ok) (n:Nat):(jV m n).1.Ok:=by
 unfold jV;split
 ·exact h
 ·rename_i hr
  have h1:=UJ h.lt (h.chk (by omega)) n;exact⟨h1.1,fun _=>h1.2⟩
set_option maxRecDepth 100000 in
theorem P8 (p:Po) (n:Nat) (hr:p.m.rate=0):P7 p n:=fun w f hb=>by
 have e:jV p.m n=(p.m,1):=by unfold jV;rw[if_pos hr]
 have hb':ag w f.pb (BF {p with m:=p.m} f) 125:=hb;have HB:=ae hb';have c2:=hb.cell 2 rfl;rw[e];simp only;have hr0:(p.m.rate:Int)=0:=by omega
 obtain⟨pb,hpb⟩:∃pb,f.pb=pb:=⟨_,rfl⟩
 rw[hpb]at c2 HB ⊢;clear hb hb' e hpb
 go_enter Tryz.func56,Tryz.ntmps56
 go_wp2
 go_ret
 exact⟨rfl,HB.out,Kp.refl _ _⟩
theorem Ij {l:List dI} (h:∀r∈l,r.Ok) {x:DV} {fl:Nat} (hf:jg l x=some fl):fl<4294967296:=by
 unfold jg at hf;cases hq:l.find? (fun r=>Dj r x)with
 |none=>rw[hq]at hf;cases hf
 |some r=>
  rw[hq]at hf;simp only[Option.map_some,Option.some.injEq]at hf;rw[←hf];exact(h r (List.mem_of_find?_eq_some hq)).fl
theorem FN {fl id n:Nat} (h1:fl<4294967296) (h2:id<4294967296) (h3:n<18446744073709551616):(⟨1,fl,id,n,0⟩:yV).ok:=
 ⟨⟨by show(-9223372036854775808:Int)≤1;decide,by show(1:Int)≤9223372036854775807;decide⟩,h1,h2,h3,by show 0<18446744073709551616;decide⟩
theorem Ik (s:Sh) (fl id ln:Nat):(dU s fl id ln).1[1]? =some (.int .i64 (dN s.g fl ln)):=by
 unfold dU;split
 ·rename_i h;rw[h];rfl
 ·rfl
def z42:List Value:=mY 0 0 0 0 0 0 oP
set_option maxRecDepth 100000 in
theorem Il {w:World} {f:iM} {p:Po} (h:iC w f p) (hT:Tab w) (s:ByteArray) (hs:s.size≤100000) (he:bZ (bl s)=0) (fl:Nat) (hf:jg p.rl (dV (bl s)).n=some fl) (ho:jh (bl s)=0) (wI:P7 p s.size) (hc:(jV p.m s.size).2=1) (hn:jv p.s.bk<9223372036854775807) (hnum:p.num+1<4294967296) (hmay:dN p.s.g fl s.size=0):
 Calls Tryz.prog 14 #[.pointer (some ⟨f.pb,0,none⟩),.string s] w fun e w'=>e=.returned (.tuple #[.int .u32 ((p.num:Int)+1),.int .i64 0])∧qX w f {p with m:=(jV p.m s.size).1,s:=(dU p.s fl (p.num+1) s.size).2,num:=p.num+1,wt:=fun k=>if k=p.num+1 then lU (bl s)else p.wt k} w':=by
 have Yw:=Ij h.ok.UR hf;have HT:=ae (fun W=>pG s hs he W);have HO:=ae (fun W=>IG s hs ho W);have hlen:(lU (bl s)).length=s.size:=by rw[NC he,aO]
 have hfl:=fun W (k:Kp none' w W)=>JJ W f.tb p.rl h.ok.UR h.ok.chk ((h.old k).ru.rt) (hT.kp k (fun x=>x)) (dV (bl s)) (uU _)
 rw[hf]at hfl;have HF:=ae hfl;have pO:=ae (fun W (k:Kp none' w W)=>wI W f (h.old k).top);rw[hc]at pO;have hmo:=ND h.ok.mok s.size;obtain⟨m',hm'⟩:∃m',(jV p.m s.size).1=m':=⟨_,rfl⟩
 rw[hm']at pO hmo ⊢;have hy:=h.ok.y;obtain⟨L,hL⟩:∃L,lU (bl s)=L:=⟨_,rfl⟩
 rw[hL]at HO hlen ⊢;have hLl:L.length≤100000:=by omega
 clear hL;have HD:=ae (fun W (k:ShM W f.sf p.s)=>Ny ⟨1,fl,p.num+1,s.size,0⟩ k (fun e=>absurd (show(1:Int)=2 from e) (by decide)) (FN Yw hnum (by omega)) hn);have hvs:∃vs,(dU p.s fl (p.num+1) s.size).1=vs∧vs[1]? =some (.int .i64 (dN p.s.g fl s.size))∧FM vs:=⟨_,rfl,Ik _ _ _ _,PY _ _ _ _⟩
 obtain⟨vs,hvs,hv1,h42,h1c⟩:=hvs;have hdo:xK p.s ⟨1,fl,p.num+1,s.size,0⟩=dU p.s fl (p.num+1) s.size:=by unfold xK;rw[if_pos rfl]
 rw[hdo,hvs]at HD;obtain⟨s',hs'⟩:∃s',(dU p.s fl (p.num+1) s.size).2=s':=⟨_,rfl⟩
 rw[hs']at HD ⊢;obtain⟨cd,hcd⟩:∃cd,dN p.s.g fl s.size=cd:=⟨_,rfl⟩
 rw[hcd]at hmay hv1;have HM:=ae h;have HB:=ae h.top;obtain⟨pb,hpb⟩:∃pb,f.pb=pb:=⟨_,rfl⟩
 rw[hpb]at HB pO ⊢;have gy:=ae hpb;obtain⟨H,hH⟩:∃H,dV (bl s)=H:=⟨_,rfl⟩
 rw[hH]at HT HF;have c0:=HB.out.cell 0 rfl;simp only[fO,Uo,Nl,Np]at HT HF HD;rw[show((p.num+1:Nat):Int)=(p.num:Int)+1 by omega]at HD;obtain⟨ds,id,eX,sr,d,sp,dp⟩:=H;simp only at HT HF;refine ay ?_;intro PP HP;clear h he hpb hH hT hf hfl ho wI hc hm' hvs hdo hs' hcd
 go_enter Tryz.func14,Tryz.ntmps14
 go_wp2_with fail
 refine(HT.out _).mono ?_;rintro e w1 ⟨rfl,hk1⟩;have sJ:=ae (ag.new w1 [.int .u8 ds,.int .u16 id,.int .u8 eX,.int .u32 sr,.int .u32 d,.int .u16 sp,.int .u16 dp] 44);have ax:=ae (hk1.alloc (.cells #[.int .u8 ds,.int .u16 id,.int .u8 eX,.int .u32 sr,.int .u32 d,.int .u16 sp,.int .u16 dp] 44));have d1:=(HB.out.kp ax.out (fun x=>x)).cell 1 rfl;clear hk1 c0
 go_upto_region 6 with fail
 refine af [] [0,1,2,3,4,5,6,7,8,9] 10 (by kernel_rfl) (by kernel_rfl) (fun c a d u w h=>by cases d<;>exact h) ?_;simp only[pick,bn];show aA _ _ _ _ _ _
 repeat((first
  |refine ah (by exact rfl) (sG sJ.out _ Tryz.underlying44 rfl jL rfl rfl) ?_
  |refine ah (by exact rfl) (by as_aux_lemma=>intro W hK;have e1:=hK.cell d1 (fun x=>x);go_simp;exact rfl) ?_
  |refine ai (by exact rfl) ?_
  |refine au (by exact rfl) (by as_aux_lemma=>intro W;go_simp;exact⟨rfl,rfl⟩) (by intro W hK;with_reducible first|exact HF.out W (ax.out.trans hK)) ?_);simp only[Act.put,aY])
 show ∀W,_→wpList _ _ _ _ _ _
 intro W2 hK2;have ak:=ae (ax.out.trans hK2);clear hK2 sJ ax d1
 go_wp2_with fail
 refine(HO.out _).mono ?_;rintro e w3 ⟨rfl,hk3⟩;have aF:=ae (ak.out.trans hk3);clear hk3 ak
 go_wp2_with fail
 refine(pO.out _ aF.out).mono ?_;rintro e w4 ⟨rfl,hb4,hk4⟩;have hm4:iC w4 f {p with m:=m'}:=(HM.out.old aF.out).col (by rw[gy.out];exact hb4) (by rw[gy.out];exact hk4) hmo;have jR:=ae hm4;have aH:Hid (Kp f.all w w4):=ae ((aF.out.mono (fun _ _ x=>x.elim)).trans (hk4.mono (fun b _ e=>.inl (by rw[gy.out];exact e))));have c7:=hb4.cell 7 rfl;have c9:=hb4.cell 9 rfl;have c0:=hb4.cell 0 rfl;clear hb4 hk4 hm4 hmo HM aF pO HB
 go_wp2_with fail
 have dB:=jR;have a_:=aH;clear jR aH c7;refine(HD.out _ dB.out.sh).mono ?_;rintro e w6 ⟨rfl,hto⟩;obtain⟨f',qC,hk6,pX,hsb⟩:=dB.out.Nz hto;have mV:=ae qC;have b_:=ae (a_.out.trans hk6);have rP:=ae (pX.trans (Nw.refl w6 _) hk6.size);have FO:ag (w6.alloc (.cells afz 64)) w6.heap.size z42 64:=ag.new w6 z42 64;have xO:=ae FO;have hws:=a_.out.size;have UC:=ae hws;clear hto qC hk6 pX hsb FO c0 c9 HD dB a_ hws
 go_upto_region 22 with(first
  |(refine ik rfl 64 (.tmp 14) (.tmp 84) rfl xO.out vs (by rw[h42];rfl) rfl rfl (by rw[h42];exact aZ) h1c ?_
    intro W7 hb7 qj;have b1:=hb7.cell 1 hv1;have j_:Kp none' w6 W7:=((Kp.refl none' w6).alloc (.cells afz 64)).then qj (fun i h1 h2=>by omega)
    have vg:=ae (mV.out.old j_);have oH:=ae (b_.out.trans (j_.mono (fun _ _ x=>x.elim)));have NF:=ae j_
    clear hb7 qj j_ mV b_ xO))
 have hb7:=vg.out.top;obtain⟨nn,DD,hown,hnn,hat⟩:=vg.out.mp.is;have HOWN:=ae hown;have hpm:pb≠f.mb:=by have:=vg.out.n1;rw[←gy.out];exact this
 have FP:ag W7 pb (BF {p with m:=m',s:=s'} {f with sf:=f'}) 125:=by rw[←gy.out];exact hb7
 have a9:=FP.cell 9 rfl;have z9:=FP.fz 9;have jw:=ae FP;clear hb7 hown FP
 go_upto_region 23 with fail
 have hb8:ag (W7.setCell ⟨pb,9,none⟩ (.int .u32 ((p.num:Int)+1))) pb ((BF {p with m:=m',s:=s'} {f with sf:=f'}).set 9 (.int .u32 ((p.num:Int)+1))) 125:=jw.out.set 9 _;have hk8:=Iy W7 pb 9 (.int .u32 ((p.num:Int)+1));have ho8:=JQ HOWN.out hk8 (fun e=>hpm e.symm);obtain⟨W8,Yj⟩:∃W8,W7.setCell ⟨pb,9,none⟩ (.int .u32 ((p.num:Int)+1))=W8:=⟨_,rfl⟩
 rw[Yj]at hb8 hk8 ho8 ⊢;have a8:=hb8.cell 8 rfl;have lQ:=ae hb8;have mG:=ae hk8;have um:=ae ho8;have HKY:Hid (keyOf Tryz.prog 42 (.int .u32 ((p.num:Int)+1))=some (kU ((p.num+1:Nat):Int))):=ae (by have:=JR (p.num+1) hnum;rw[show((p.num+1:Nat):Int)=(p.num:Int)+1 by omega]at this ⊢;exact this);have HEL:Hid (plainElem (H:=Unit) Tryz.prog 9 (.string (tx L))=some (.lit (.string L),[])):=ae (by have:=Ii (tx L) (by rw[nD];omega);rw[iI]at this;exact this);clear a9 z9 b1 hb8 hk8 ho8 Yj jw HOWN
 go_wp2_with(at_mapUpdate;refine wpList_mapUpdate_own _ rfl _ _ _ 120 rfl 42 9 (int_keyed Tryz.underlying42) Tryz.underlying120 (plainElem (H:=Unit) Tryz.prog 9) f.mb nn DD rfl um.out (by unfold maxLen;have h3:nn≤p.num:=hnn;omega) _ _ _ rfl rfl HKY.out (.lit (.string L)) [] HEL.out ?_)
 intro w9 pU Rt;have Yx:Kp (fun b=>b=f.mb) W8 w9:=(Kp.refl _ _).grown Rt (fun k e=>.inl (Option.some.inj e).symm);have hb9:=lQ.out.kp Yx hpm;have Yy:Kp (fun b=>b=f.pb∨b=f.mb) W7 w9:=(mG.out.mono (fun b _ e=>.inl (by rw[gy.out];exact e))).trans (Yx.mono (fun b _ e=>.inr e));have hwt:=wH.put um.out hat hnn (p.num+1) L pU
 have hpo:=iC.wait vg.out (num:=p.num+1) (wt:=fun k=>if k=p.num+1 then L else p.wt k) (by rw[gy.out];exact hb9) hwt Yy hnum (fun b=>by
  show(if b=p.num+1 then L else p.wt b).length≤_;split
  ·exact hLl
  ·exact vg.out.ok.wl b)
 have Cc:=ae (HP.out _ w9 ⟨rfl,{f with sf:=f'},hpo,oH.out.then Yy (fun b hb e=>by rcases e with e|e;exact .inl e;exact .inr (.inl e)),fun b hb=>by
  rcases rP.out b hb with e|e
  ·exact .inl e
  ·exact .inr (by have:=UC.out;omega),rfl,rfl,rfl⟩)
 clear pU Rt Yx hb9 Yy hwt hpo vg oH HP NF lQ mG um hat a8
 go_wp2_with fail
 exact Cc.out
set_option maxRecDepth 100000 in
theorem Yz {w:World} {f:iM} {p:Po} (h:iC w f p) (hT:Tab w) (s:ByteArray) (hs:s.size≤100000) (he:bZ (bl s)=0) (fl:Nat) (hf:jg p.rl (dV (bl s)).n=some fl) (ho:jh (bl s)=0) (wI:P7 p s.size) (hc:(jV p.m s.size).2=1) (hn:jv p.s.bk<9223372036854775807) (hnum:p.num+1<4294967296) (hmay:dN p.s.g fl s.size≠0):
 Calls Tryz.prog 14 #[.pointer (some ⟨f.pb,0,none⟩),.string s] w fun e w'=>e=.returned (.tuple #[.int .u32 0,.int .i64 (dN p.s.g fl s.size)])∧qX w f {p with m:=(jV p.m s.size).1,s:=(dU p.s fl (p.num+1) s.size).2} w':=by
 have Yw:=Ij h.ok.UR hf;have HT:=ae (fun W=>pG s hs he W);have HO:=ae (fun W=>IG s hs ho W);have hlen:(lU (bl s)).length=s.size:=by rw[NC he,aO]
 have hfl:=fun W (k:Kp none' w W)=>JJ W f.tb p.rl h.ok.UR h.ok.chk ((h.old k).ru.rt) (hT.kp k (fun x=>x)) (dV (bl s)) (uU _)
 rw[hf]at hfl;have HF:=ae hfl;have pO:=ae (fun W (k:Kp none' w W)=>wI W f (h.old k).top);rw[hc]at pO;have hmo:=ND h.ok.mok s.size;obtain⟨m',hm'⟩:∃m',(jV p.m s.size).1=m':=⟨_,rfl⟩
 rw[hm']at pO hmo ⊢;have hy:=h.ok.y;obtain⟨L,hL⟩:∃L,lU (bl s)=L:=⟨_,rfl⟩
 rw[hL]at HO hlen;have hLl:L.length≤100000:=by omega
 clear hL;have HD:=ae (fun W (k:ShM W f.sf p.s)=>Ny ⟨1,fl,p.num+1,s.size,0⟩ k (fun e=>absurd (show(1:Int)=2 from e) (by decide)) (FN Yw hnum (by omega)) hn);have hvs:∃vs,(dU p.s fl (p.num+1) s.size).1=vs∧vs[1]? =some (.int .i64 (dN p.s.g fl s.size))∧FM vs:=⟨_,rfl,Ik _ _ _ _,PY _ _ _ _⟩
 obtain⟨vs,hvs,hv1,h42,h1c⟩:=hvs;have hdo:xK p.s ⟨1,fl,p.num+1,s.size,0⟩=dU p.s fl (p.num+1) s.size:=by unfold xK;rw[if_pos rfl]
 rw[hdo,hvs]at HD;obtain⟨s',hs'⟩:∃s',(dU p.s fl (p.num+1) s.size).2=s':=⟨_,rfl⟩
 rw[hs']at HD ⊢;obtain⟨cd,hcd⟩:∃cd,dN p.s.g fl s.size=cd:=⟨_,rfl⟩
 rw[hcd]at hmay hv1 ⊢;have HM:=ae h;have HB:=ae h.top;obtain⟨pb,hpb⟩:∃pb,f.pb=pb:=⟨_,rfl⟩
 rw[hpb]at HB pO ⊢;have gy:=ae hpb;obtain⟨H,hH⟩:∃H,dV (bl s)=H:=⟨_,rfl⟩
 rw[hH]at HT HF;have c0:=HB.out.cell 0 rfl;simp only[fO,Uo,Nl,Np]at HT HF HD;rw[show((p.num+1:Nat):Int)=(p.num:Int)+1 by omega]at HD;obtain⟨ds,id,eX,sr,d,sp,dp⟩:=H;simp only at HT HF;refine ay ?_;intro PP HP;clear h he hpb hH hT hf hfl ho wI hc hm' hvs hdo hs' hcd
 go_enter Tryz.func14,Tryz.ntmps14
 go_wp2_with fail
 refine(HT.out _).mono ?_;rintro e w1 ⟨rfl,hk1⟩;have sJ:=ae (ag.new w1 [.int .u8 ds,.int .u16 id,.int .u8 eX,.int .u32 sr,.int .u32 d,.int .u16 sp,.int .u16 dp] 44);have ax:=ae (hk1.alloc (.cells #[.int .u8 ds,.int .u16 id,.int .u8 eX,.int .u32 sr,.int .u32 d,.int .u16 sp,.int .u16 dp] 44));have d1:=(HB.out.kp ax.out (fun x=>x)).cell 1 rfl;clear hk1 c0
 go_upto_region 6 with fail
 refine af [] [0,1,2,3,4,5,6,7,8,9] 10 (by kernel_rfl) (by kernel_rfl) (fun c a d u w h=>by cases d<;>exact h) ?_;simp only[pick,bn];show aA _ _ _ _ _ _
 repeat((first
  |refine ah (by exact rfl) (sG sJ.out _ Tryz.underlying44 rfl jL rfl rfl) ?_
  |refine ah (by exact rfl) (by as_aux_lemma=>intro W hK;have e1:=hK.cell d1 (fun x=>x);go_simp;exact rfl) ?_
  |refine ai (by exact rfl) ?_
  |refine au (by exact rfl) (by as_aux_lemma=>intro W;go_simp;exact⟨rfl,rfl⟩) (by intro W hK;with_reducible first|exact HF.out W (ax.out.trans hK)) ?_);simp only[Act.put,aY])
 show ∀W,_→wpList _ _ _ _ _ _
 intro W2 hK2;have ak:=ae (ax.out.trans hK2);clear hK2 sJ ax d1
 go_wp2_with fail
 refine(HO.out _).mono ?_;rintro e w3 ⟨rfl,hk3⟩;have aF:=ae (ak.out.trans hk3);clear hk3 ak
 go_wp2_with fail
 refine(pO.out _ aF.out).mono ?_;rintro e w4 ⟨rfl,hb4,hk4⟩;have hm4:iC w4 f {p with m:=m'}:=(HM.out.old aF.out).col (by rw[gy.out];exact hb4) (by rw[gy.out];exact hk4) hmo;have jR:=ae hm4;have aH:Hid (Kp f.all w w4):=ae ((aF.out.mono (fun _ _ x=>x.elim)).trans (hk4.mono (fun b _ e=>.inl (by rw[gy.out];exact e))));have c7:=hb4.cell 7 rfl;have c9:=hb4.cell 9 rfl;have c0:=hb4.cell 0 rfl;clear hb4 hk4 hm4 hmo HM aF pO HB
 go_wp2_with fail
 have dB:=jR;have a_:=aH;clear jR aH c7;refine(HD.out _ dB.out.sh).mono ?_;rintro e w6 ⟨rfl,hto⟩;obtain⟨f',qC,hk6,pX,hsb⟩:=dB.out.Nz hto;have mV:=ae qC;have b_:=ae (a_.out.trans hk6);have rP:=ae (pX.trans (Nw.refl w6 _) hk6.size);have FO:ag (w6.alloc (.cells afz 64)) w6.heap.size z42 64:=ag.new w6 z42 64;have xO:=ae FO;have hws:=a_.out.size;have UC:=ae hws;clear hto qC hk6 pX hsb FO c0 c9 HD dB a_ hws
 go_wp2_with(first
  |(refine ik rfl 64 (.tmp 14) (.tmp 84) rfl xO.out vs (by rw[h42];rfl) rfl rfl (by rw[h42];exact aZ) h1c ?_
    intro W7 hb7 qj;have b1:=hb7.cell 1 hv1;have j_:Kp none' w6 W7:=((Kp.refl none' w6).alloc (.cells afz 64)).then qj (fun i h1 h2=>by omega)
    have vg:=ae (mV.out.old j_);have oH:=ae (b_.out.trans (j_.mono (fun _ _ x=>x.elim)));have NF:=ae j_
    clear hb7 qj j_ mV b_ xO))
 go_upto_region 21 with fail
 have CX:=ae (vg.out.old (Kp.drewN (Kp.refl none' _) 1));have mG:=ae (oH.out.drewN 1)
 go_region
 all_goals
  go_wp2_with fail
 exact HP.out _ _ ⟨rfl,{f with sf:=f'},CX.out,mG.out,fun b hb=>by
  rcases rP.out b hb with e|e
  ·exact .inl e
  ·exact .inr (by have:=UC.out;omega),rfl,rfl,rfl⟩
theorem FQ:(⟨2,0,0,0,0⟩:yV).ok:=
 ⟨⟨by show(-9223372036854775808:Int)≤2;decide,by show(2:Int)≤9223372036854775807;decide⟩,by show 0<4294967296;decide,by show 0<4294967296;decide,by show 0<18446744073709551616;decide,by show 0<18446744073709551616;decide⟩
set_option maxRecDepth 100000 in
theorem Ru {w:World} {f:iM} {p:Po} (h:iC w f p) (iL:Bz w f.sf.all) (c:Int) (hc0:¬c=0) (hv1:(dA p.s).1[1]? =some (.int .i64 c)) (hst:(dA p.s).2=p.s) (hn:jv p.s.bk<9223372036854775807):
 Calls Tryz.prog 19 #[.pointer (some ⟨f.pb,0,none⟩)] w fun e w'=>e=.returned (.tuple #[.string ⟨#[]⟩,.int .i64 c])∧qX w f p w':=by
 have HD:=ae (fun W (k:ShM W f.sf p.s) (kk:Kp none' w W)=>Ny ⟨2,0,0,0,0⟩ k (fun _=>⟨iL.tab.kp kk (fun x=>x),iL.ne⟩) FQ hn);have hdo:xK p.s ⟨2,0,0,0,0⟩=dA p.s:=by unfold xK;rw[if_neg (by decide),if_pos rfl]
 obtain⟨vs,hvs⟩:∃vs,(dA p.s).1=vs:=⟨_,rfl⟩
 have NG:=PZ p.s;rw[hvs]at hv1 NG;obtain⟨h42,h1c⟩:=NG;rw[hdo,hvs]at HD;obtain⟨s',hs'⟩:∃s',(dA p.s).2=s':=⟨_,rfl⟩
 rw[hs']at HD;have HM:=ae h;have c0:=h.top.cell 0 rfl;obtain⟨pb,hpb⟩:∃pb,f.pb=pb:=⟨_,rfl⟩
 rw[hpb]at c0 ⊢;have gy:=ae hpb;simp only[Uo]at HD;refine ay ?_;intro PP HP;have HPS:Hid (({p with s:=s'}:Po)=p):=ae (by rw[←hs',hst]);clear h hpb hvs hdo hs' hst iL
 go_enter Tryz.func19,Tryz.ntmps19
 go_wp2_with fail
 refine(HD.out _ HM.out.sh (Kp.refl none' _)).mono ?_;rintro e w6 ⟨rfl,hto⟩;obtain⟨f',qC,hk6,pX,hsb⟩:=HM.out.Nz hto;have mV:=ae qC;have b_:=ae hk6;have rP:=ae pX;have FO:ag (w6.alloc (.cells afz 64)) w6.heap.size z42 64:=ag.new w6 z42 64;have xO:=ae FO;clear hto qC hk6 pX hsb FO c0 HD
 go_wp2_with(first
  |(refine ik rfl 64 (.tmp 4) (.tmp 20) rfl xO.out vs (by rw[h42];rfl) rfl rfl (by rw[h42];exact aZ) h1c ?_
    intro W7 hb7 qj;have b1:=hb7.cell 1 hv1;have jw:=ae hb7;have j_:Kp none' w6 W7:=((Kp.refl none' w6).alloc (.cells afz 64)).then qj (fun i h1 h2=>by omega)
    have vg:=ae (mV.out.old j_);have oH:=ae (b_.out.trans (j_.mono (fun _ _ x=>x.elim)));have NF:=ae j_
    clear hb7 qj j_ mV b_ xO))
 go_upto_region 5 with fail
 have CX:=ae (vg.out.old (Kp.drewN (Kp.refl none' _) 1));have mG:=ae (oH.out.drewN 1)
 go_region
 all_goals
  go_wp2_with fail
  exact HP.out _ _ ⟨rfl,{f with sf:=f'},by have:=CX.out;rw[HPS.out]at this;exact this,mG.out,rP.out,rfl,rfl,rfl⟩
theorem UW {s:jB} (h:(aX s).2=true):(aX s).1∈aW s:=by
 unfold aX at*;cases hq:aW s with
 |nil=>rw[hq]at h;cases h
 |cons a r=>simp[sS]
set_option maxRecDepth 100000 in
theorem NH {w:World} {f:iM} {p:Po} (h:iC w f p) (iL:Bz w f.sf.all) (id:Nat) (hid:id<4294967296) (hv1:(dA p.s).1[1]? =some (.int .i64 0)) (hv3:(dA p.s).1[3]? =some (.int .u32 id)) (hn:jv p.s.bk<9223372036854775807):
 Calls Tryz.prog 19 #[.pointer (some ⟨f.pb,0,none⟩)] w fun e w'=>e=.returned (.tuple #[.string (tx (p.wt id)),.int .i64 0])∧qX w f {p with s:=(dA p.s).2,wt:=fun k=>if k=id then[]else p.wt k} w':=by
 have HD:=ae (fun W (k:ShM W f.sf p.s) (kk:Kp none' w W)=>Ny ⟨2,0,0,0,0⟩ k (fun _=>⟨iL.tab.kp kk (fun x=>x),iL.ne⟩) FQ hn);have hdo:xK p.s ⟨2,0,0,0,0⟩=dA p.s:=by unfold xK;rw[if_neg (by decide),if_pos rfl]
 obtain⟨vs,hvs⟩:∃vs,(dA p.s).1=vs:=⟨_,rfl⟩
 have NG:=PZ p.s;rw[hvs]at hv1 NG;obtain⟨h42,h1c⟩:=NG;rw[hdo,hvs]at HD;obtain⟨s',hs'⟩:∃s',(dA p.s).2=s':=⟨_,rfl⟩
 rw[hs']at HD;have HM:=ae h;have c0:=h.top.cell 0 rfl;obtain⟨pb,hpb⟩:∃pb,f.pb=pb:=⟨_,rfl⟩
 rw[hpb]at c0 ⊢;have gy:=ae hpb;simp only[Uo]at HD;rw[hvs]at hv3;rw[hs'];refine ay ?_;intro PP HP;have HKY:=ae (JR id hid);clear h hpb hvs hdo hs' iL
 go_enter Tryz.func19,Tryz.ntmps19
 go_wp2_with fail
 refine(HD.out _ HM.out.sh (Kp.refl none' _)).mono ?_;rintro e w6 ⟨rfl,hto⟩;obtain⟨f',qC,hk6,pX,hsb⟩:=HM.out.Nz hto;have mV:=ae qC;have b_:=ae hk6;have rP:=ae pX;have FO:ag (w6.alloc (.cells afz 64)) w6.heap.size z42 64:=ag.new w6 z42 64;have xO:=ae FO;clear hto qC hk6 pX hsb FO c0 HD
 go_upto_region 4 with(first
  |(refine ik rfl 64 (.tmp 4) (.tmp 20) rfl xO.out vs (by rw[h42];rfl) rfl rfl (by rw[h42];exact aZ) h1c ?_
    intro W7 hb7 qj;have b1:=hb7.cell 1 hv1;have jw:=ae hb7;have j_:Kp none' w6 W7:=((Kp.refl none' w6).alloc (.cells afz 64)).then qj (fun i h1 h2=>by omega)
    have vg:=ae (mV.out.old j_);have oH:=ae (b_.out.trans (j_.mono (fun _ _ x=>x.elim)));have NF:=ae j_
    clear hb7 qj j_ mV b_ xO))
 have FP:ag W7 pb (BF {p with s:=s'} {f with sf:=f'}) 125:=by rw[←gy.out];exact vg.out.top
 have a8:=FP.cell 8 rfl;have b3:=jw.out.cell 3 hv3;have HL:=ae (vg.out.mp.look id hid);clear FP
 go_upto_region 6 with fail
 refine af [] [0,1,2,3,4,5,6,7] 8 (by kernel_rfl) (by kernel_rfl) (fun c a d u w h=>by cases d<;>exact h) ?_;simp only[pick,bn];show aA _ _ _ _ _ _
 repeat((first
  |refine ah (by exact rfl) (by as_aux_lemma=>intro W hK;have e1:=hK.cell a8 (fun x=>x);have e2:=hK.cell b3 (fun x=>x);have e3:=HL.out W hK;go_simp;exact rfl) ?_
  |refine ai (by exact rfl) ?_);simp only[Act.put,aY])
 show ∀W,_→wpList _ _ _ _ _ _
 intro W8 hK8;have CX:=ae (vg.out.old hK8);have mG:=ae (oH.out.trans (hK8.mono (fun _ _ x=>x.elim)));have d8:=hK8.cell a8 (fun x=>x);have d3:=hK8.cell b3 (fun x=>x);clear hK8 vg oH HL a8 b3 b1 jw
 go_upto_region 7 with fail
 refine af [] [0,1,2,3,4,5,6] 7 (by kernel_rfl) (by kernel_rfl) (fun c a d u w h=>by cases d<;>exact h) ?_;simp only[pick,bn];show aA _ _ _ _ _ _
 repeat((first
  |refine ah (by exact rfl) (by as_aux_lemma=>intro W hK;have e1:=hK.cell d8 (fun x=>x);have e2:=hK.cell d3 (fun x=>x);go_simp;exact rfl) ?_
  |refine ai (by exact rfl) ?_);simp only[Act.put,aY])
 show ∀W,_→wpList _ _ _ _ _ _
 intro W9 hK9;have P9:=ae (CX.out.old hK9);have MV:=ae (mG.out.trans (hK9.mono (fun _ _ x=>x.elim)));obtain⟨nn,DD,hown,hnn,hat⟩:=P9.out.mp.is;have HOWN:=ae hown;clear hK9 CX mG d8 d3 hown;refine wpList_delete_own _ rfl _ _ 120 42 rfl 9 (int_keyed Tryz.underlying42) Tryz.underlying120 (plainElem (H:=Unit) Tryz.prog 9) f.mb nn DD rfl HOWN.out _ _ rfl HKY.out ?_;intro w10 Rx NI;have hk10:Kp (fun b=>b=f.mb) W9 w10:=(Kp.refl _ _).grown NI.grown (fun k e=>.inl (Option.some.inj e).symm);have hwt:=wH.del (w:=W9) hat hnn id Rx;have hk10':Kp (fun b=>b=f.pb∨b=f.mb) W9 w10:=hk10.mono (fun b _ e=>.inr e)
 have hpo:=iC.wait P9.out (num:=p.num) (wt:=fun k=>if k=id then[]else p.wt k) (P9.out.top.kp hk10 P9.out.n1) hwt hk10' P9.out.ok.num (fun b=>by
  show(if b=id then[]else p.wt b).length≤_;split
  ·exact Nat.zero_le _
  ·exact P9.out.ok.wl b)
 have Cc:=ae (HP.out _ w10 ⟨rfl,{f with sf:=f'},hpo,MV.out.then hk10 (fun b hb e=>.inr (.inl e)),rP.out,rfl,rfl,rfl⟩);clear Rx NI hk10 hk10' hwt hpo P9 MV HP NF HOWN hat hnn
 go_wp2_with fail
 exact Cc.out
theorem NJ {t:Nat} (h:t<18446744073709551616):(⟨3,0,0,0,t⟩:yV).ok:=
 ⟨⟨by show(-9223372036854775808:Int)≤3;decide,by show(3:Int)≤9223372036854775807;decide⟩,by show 0<4294967296;decide,by show 0<4294967296;decide,by show 0<18446744073709551616;decide,h⟩
set_option maxRecDepth 100000 in
theorem Ry {w:World} {f:iM} {p:Po} (h:iC w f p) (hr:p.m.rate=0) (t:Nat) (ht:t<18446744073709551616) (hn:jv p.s.bk<9223372036854775807):
 Calls Tryz.prog 17 #[.pointer (some ⟨f.pb,0,none⟩),.int .u64 t] w fun e w'=>e=.returned (.tuple #[])∧qX w f (qy p t) w':=by
 have HD:=ae (fun W (k:ShM W f.sf p.s)=>Ny ⟨3,0,0,0,t⟩ k (fun e=>absurd (show(3:Int)=2 from e) (by decide)) (NJ ht) hn);obtain⟨vs,hvs⟩:∃vs,(xK p.s ⟨3,0,0,0,t⟩).1=vs:=⟨_,rfl⟩
 obtain⟨s',hs'⟩:∃s',(xK p.s ⟨3,0,0,0,t⟩).2=s':=⟨_,rfl⟩
 rw[hvs,hs']at HD;have oG:Hid (qy p t= {p with s:=s'}):=ae (by unfold qy;rw[hs',if_pos hr]);have HM:=ae h;have c0:=h.top.cell 0 rfl;obtain⟨pb,hpb⟩:∃pb,f.pb=pb:=⟨_,rfl⟩
 rw[hpb]at c0 ⊢;have gy:=ae hpb;have TV:=ae hr;simp only[Uo]at HD;refine ay ?_;intro PP HP;clear h hpb hvs hs' hr
 go_enter Tryz.func17,Tryz.ntmps17
 go_wp2_with fail
 refine(HD.out _ HM.out.sh).mono ?_;rintro e w6 ⟨rfl,hto⟩;obtain⟨f',qC,hk6,pX,hsb⟩:=HM.out.Nz hto;have mV:=ae qC;have b_:=ae hk6;have rP:=ae pX;have c2:w6.cell? ⟨pb,2,none⟩=some (.int .u64 0):=by
  have:=qC.top.cell 2 rfl;rw[←gy.out,this];show some (Value.int .u64 ((p.m.rate:Nat):Int))=_;rw[TV.out];rfl
 clear hto qC hk6 pX hsb c0 HD
 go_wp2_with fail
 go_end0
 exact HP.out _ _ ⟨rfl,{f with sf:=f'},by rw[oG.out];exact mV.out,b_.out,rP.out,rfl,rfl,rfl⟩
theorem BG {w w':World} {f:iM} {p:Po} (h:iC w f p) (k:Kp none' w w'):qX w f p w':=⟨f,h.old k,k.mono (fun _ _ x=>x.elim),Nw.refl _ _,rfl,rfl,rfl⟩
theorem adi {w:World} {f:iM} {p:Po} (h:iC w f p) (hT:Tab w) (hr:p.m.rate=0) (s:ByteArray) (hs:s.size≤100000) (hn:jv p.s.bk<9223372036854775807) (hnum:p.num+1<4294967296):
 Calls Tryz.prog 14 #[.pointer (some ⟨f.pb,0,none⟩),.string s] w fun e w'=>e=.returned (.tuple #[.int .u32 (qx p (bl s)).1.1,.int .i64 (qx p (bl s)).1.2])∧qX w f (qx p (bl s)).2 w':=by
 have hsz:(bl s).length=s.size:=by unfold bl;simp
 have wI:(jV p.m s.size)=(p.m,1):=by unfold jV;rw[if_pos hr]
 unfold qx;by_cases he:bZ (bl s)=0
 ·rw[if_neg (by simp[he])];cases hf:jg p.rl (dV (bl s)).n with
  |none=>
   refine(UU h hT s hs he hf).mono ?_;rintro e w' ⟨rfl,hk⟩;exact⟨rfl,BG h hk⟩
  |some fl=>
   simp only;by_cases ho:jh (bl s)=0
   ·rw[if_neg (by simp[ho]),hsz,wI,if_neg (by simp)];by_cases hm:dN p.s.g fl s.size=0
    ·rw[if_pos hm];refine(Il h hT s hs he fl hf ho (P8 p _ hr) (by rw[wI]) hn hnum hm).mono ?_;rintro e w' ⟨rfl,hk⟩;rw[wI]at hk;exact⟨by simp,hk⟩
    ·rw[if_neg hm];refine(Yz h hT s hs he fl hf ho (P8 p _ hr) (by rw[wI]) hn hnum hm).mono ?_;rintro e w' ⟨rfl,hk⟩;rw[wI]at hk;exact⟨rfl,hk⟩
   ·rw[if_pos (by simpa using ho)];refine(Yv h hT s hs he fl hf ho).mono ?_;rintro e w' ⟨rfl,hk⟩;exact⟨rfl,BG h hk⟩
 ·rw[if_pos (by simpa using he)];refine(UT h s hs he).mono ?_;rintro e w' ⟨rfl,hk⟩;exact⟨rfl,BG h hk⟩
theorem ae3 {w:World} {f:iM} {p:Po} (h:iC w f p) (iL:Bz w f.sf.all) (hn:jv p.s.bk<9223372036854775807):
 Calls Tryz.prog 19 #[.pointer (some ⟨f.pb,0,none⟩)] w fun e w'=>e=.returned (.tuple #[.string (tx (jd p).1.1),.int .i64 (jd p).1.2])∧qX w f (jd p).2 w':=by
 unfold jd;by_cases h1:(aX p.s.bk).2=false
 ·rw[if_pos h1];have hd:dA p.s=(mY 2 18 0 0 0 0 oP,p.s):=by unfold dA;rw[if_pos h1]
  exact Ru h iL 18 (by decide) (by rw[hd];rfl) (by rw[hd]) hn
 ·rw[if_neg h1];by_cases h2:p.s.tok<(aX p.s.bk).1.x.len
  ·rw[if_pos h2];have hd:dA p.s=(mY 2 19 0 0 0 0 oP,p.s):=by unfold dA;rw[if_neg h1,if_pos h2]
   exact Ru h iL 19 (by decide) (by rw[hd];rfl) (by rw[hd]) hn
  ·rw[if_neg h2];have hid:(aX p.s.bk).1.x.id<4294967296:=(h.sh.ok.its _ (UW (by simpa using h1))).2.2.1;have hd:(dA p.s).1=mY 2 0 (aX p.s.bk).1.x.jU (aX p.s.bk).1.x.id (aX p.s.bk).1.x.len (aX p.s.bk).1.rank oP:=by unfold dA;rw[if_neg h1,if_neg h2]
   exact NH h iL (aX p.s.bk).1.x.id hid (by rw[hd];rfl) (by rw[hd];rfl) hn
end Go.Proofs.YtjiehhlghjnfhaaGreatDoor
namespace Go.Proofs.YtjiehhlghjnfhaaGreatDoor
open Go Go.RowKit Go.Shelf
def Rz:List iW:=[⟨1,1,10,0,50⟩,⟨2,1,20,0,50⟩]
def YA (b:Int):mF:=⟨2,b,1,2,9,100,0,10,1,10,Rz⟩
theorem RD:(Tryz.prog.info? 25).map (·.size)=some 11:=by kernel_rfl
set_option maxRecDepth 100000 in
theorem adk (w:World):Calls Tryz.prog 81 #[] w fun e w'=>∃b,e=.returned (.agg (lC (YA 1) (.slice (some ⟨b,0,none⟩) 2 2)).toArray)∧ag w' b (Rz.flatMap gU) 197∧w.heap.size≤b∧Kp none' w w':=by
 refine ay ?_;intro PP HP;have HZ:=ae (ag.new w [.int .i64 0,.int .i64 0,.int .i64 0,.int .i64 0,.int .i64 0,.int .u64 0,.int .i64 0,.int .u64 0,.int .u64 0,.int .u64 0,.slice none 0 0] 25);have HB:=ae (ag.new (w.alloc (.cells afG 25)) [.int .u32 1,.int .u64 1,.int .u64 10,.int .u64 0,.int .u64 50,.int .u32 2,.int .u64 1,.int .u64 20,.int .u64 0,.int .u64 50] 197);have e1:(w.alloc (.cells afG 25)).heap.size=w.heap.size+1:=by simp
 rw[e1]at HB;have HK:=ae (((Kp.refl none' w).alloc (.cells afG 25)).alloc (.cells #[.int .u32 1,.int .u64 1,.int .u64 10,.int .u64 0,.int .u64 50,.int .u32 2,.int .u64 1,.int .u64 20,.int .u64 0,.int .u64 50] 197));have HZ1:=ae (HZ.out.alloc (.cells #[.int .u32 1,.int .u64 1,.int .u64 10,.int .u64 0,.int .u64 50,.int .u32 2,.int .u64 1,.int .u64 20,.int .u64 0,.int .u64 50] 197));clear e1
 go_enter Tryz.func81,Tryz.ntmps81
 go_wp2_with(refine aP rfl 25 (.tmp 0) (.tmp 4) rfl HZ1.out (lC (YA 1) (.slice (some ⟨w.heap.size+1,0,none⟩) 2 2)) rfl rfl rfl RD rfl ?_
             intro W2 hb2 hk2;have HB2:=ae hb2;have ak:=ae hk2
             clear hb2 hk2)
 refine h_ (by exact rfl) HB2.out _ Tryz.underlying25 rfl RD (by exact rfl) (HP.out _ _ ⟨w.heap.size+1,rfl,HB.out.kp ak.out (fun e=>by omega),by omega,HK.out.then ak.out (fun z _ e=>by omega)⟩)
end Go.Proofs.YtjiehhlghjnfhaaGreatDoor
