/- The example of layer 36 walked: one datagram comes, and leaves; a port that nobody made has nothing. -/
import Derived.Test.YtjiehhlghjnfhaaGreatDoorMTopLineF31
import Derived.Test.YtjiehhlghjnfhaaGreatDoorMTopLineF0
import Derived.Test.YtjiehhlghjnfhaaGreatDoorMTopLineF10
import Derived.Test.YtjiehhlghjnfhaaGreatDoorMTopLineF18
set_option linter.unusedVariables false
set_option linter.unusedSimpArgs false
set_option maxHeartbeats 16000000
namespace Go.Proofs.YtjiehhlghjnfhaaGreatDoor
open Go Go.RowKit Go.Shelf Go.Maps
theorem xy {w:World} {b:Nat} {cs:List Value} {t:TypeId} (h:ag w b cs t) (n sz:Nat) (hl:cs.length=n*sz) (hn:n≤1000000):Sl w (.slice (some ⟨b,0,none⟩) n n) n sz cs:=
 ⟨hl,by omega,_,_,rfl,fun i u hu=>⟨b,0,rfl,by rw[Nat.zero_add];exact h.cell i hu⟩⟩
theorem ae7 (w:World) (b b2:Nat) (h:ag w b (nC.flatMap gU) 197) (h2:ag w b2 (Dc.flatMap ja) 153):
 Calls Tryz.prog 10 #[.agg (dY Gx (.slice (some ⟨b,0,none⟩) 2 2) (.slice (some ⟨b2,0,none⟩) 1 1)).toArray] w fun e w'=>∃f,e=.returned (.tuple #[.pointer (some ⟨f.pb,0,none⟩),.int .i64 0])∧iC w' f Gy∧(∀b,f.all b→w.heap.size≤b)∧w.heap.size≤f.lo∧Kp none' w w':=
 P_ Gx lN UX rfl _ _ w (xy h 2 5 rfl (by decide)) (xy h2 1 7 rfl (by decide)) (.hp 0 []) rfl trivial
  (fun W _=>(Wx cS _ W rfl (by decide) (by decide)).mono fun e w' ⟨b,F,h1,h2,h3,h4⟩=>⟨F7 b,F,h1,⟨b,rfl,h2⟩,h3,h4⟩)
def ab6:Po:= {Gy with m:=(jV Gy.m 32).1,s:=(dU Gy.s 1 1 32).2,num:=1,wt:=fun k=>if k=1 then xZ else Gy.wt k}
theorem JV:(tx AQ).size=32:=by rw[nD,adn]
theorem ae8 {w:World} {f:iM} (h:iC w f Gy) (hT:Tab w):
 Calls Tryz.prog 14 #[.pointer (some ⟨f.pb,0,none⟩),.string (tx AQ)] w fun e w'=>e=.returned (.tuple #[.int .u32 1,.int .i64 0])∧qX w f ab6 w':=by
 have:=Il h hT (tx AQ) (by rw[JV];decide) (by rw[iI];exact aaO) 1 (by rw[iI];exact aaP) (by rw[iI];exact adl) (P8 Gy _ rfl) rfl (by show 0<_;decide) (by show 0+1<_;decide) (by rw[JV];exact adp);rw[JV,iI]at this;exact this
theorem ae9 {w:World} {f:iM} (h:iC w f ab6) (iL:Bz w f.sf.all):
 Calls Tryz.prog 19 #[.pointer (some ⟨f.pb,0,none⟩)] w fun e w'=>e=.returned (.tuple #[.string (tx xZ),.int .i64 0])∧∃p2:Po,p2.num=1∧qX w f p2 w':=by
 refine(NH h iL 1 (by decide) aaS aaT (by decide+kernel)).mono ?_;rintro e w' ⟨rfl,h2⟩;exact⟨rfl,_,rfl,h2⟩
theorem aaX {w:World} (hT:Tab w):0<w.heap.size:=World.block_lt_of_cell? w ⟨0,0,none⟩ (hT 0 (by decide))
theorem ads:(tx xZ).extract 28 (tx xZ).size=⟨#[98,111,100,121]⟩:=by
 apply vw
 rw[kY,iI,aaR,nD,YE];rfl
set_option maxRecDepth 100000 in
theorem aaY (w:World) (hT:Tab w):Calls Tryz.prog 9 #[] w fun e w'=>e=.returned (.bool true)∧Kp none' w w':=by
 have HS:=ae (fun W=>YB W);have hpu:=fun W=>Qo hd9 ⟨⟨by decide,by decide,by decide⟩,by decide,by decide,by decide,by decide⟩ (by decide) body4 (by decide) W
 have Ep:Hid (∀W,Calls Tryz.prog 45 #[.agg #[.int .u8 0,.int .u16 0,.int .u8 9,.int .u32 0,.int .u32 0,.int .u16 0,.int .u16 0],.string ⟨#[98,111,100,121]⟩] W fun e w'=>e=.returned (.tuple #[.string (tx AQ),.int .i64 0])∧Kp none' W w'):=ae hpu;have ht:=fun W=>pG (tx xZ) (by rw[nD,YE];decide) (by rw[iI];exact aaQ) W
 rw[ads,iI]at ht;have oG:=ae ht;obtain⟨H,hH⟩:∃H,dV xZ=H:=⟨_,rfl⟩
 have h8:=ado;rw[hH]at oG h8;obtain⟨ds,id,eX,sr,d,sp,dp⟩:=H;simp only at h8;subst h8;simp only[fO]at oG;have HT:=ae hT;clear hpu ht hH hT
 go_enter Tryz.func9,Tryz.ntmps9
 go_wp2_with fail
 refine(HS.out _).mono ?_;rintro e w1 ⟨b,b2,rfl,hb,hb2,hl1,hl2,hk1⟩;have ax:=ae hk1;have HN:=ae (ae7 w1 b b2 hb hb2);clear hb hb2 hl1 hl2 hk1
 go_wp2_with fail
 refine(HN.out).mono ?_;rintro e w2 ⟨f,rfl,hpo,hfa,hlo,hk2⟩;have ab7:=ae hpo;have zO:=ae (fun b hb=>Nat.le_trans ax.out.size (hfa b hb));have ak:=ae (ax.out.trans hk2);obtain⟨pb,hpb⟩:∃pb,f.pb=pb:=⟨_,rfl⟩
 have gy:=ae hpb;rw[hpb];clear hpo hfa hlo hk2 hpb HN
 go_wp2_with fail
 refine(Ep.out _).mono ?_;rintro e w3 ⟨rfl,hk3⟩;have aF:=ae (ak.out.trans hk3);have ha:=ae8 (ab7.out.old hk3) (HT.out.kp aF.out (fun x=>x));rw[gy.out]at ha;have HA:=ae ha;clear hk3 ha ab7 ak
 go_wp2_with fail
 refine(HA.out).mono ?_;rintro e w4 ⟨rfl,f4,hm4,hk4,hn4,YN,_,_⟩;have aH:Hid (Kp none' w w4):=ae (aF.out.then hk4 (fun i hi h=>by have:=zO.out i h;omega));have YO:∀b,f4.all b→w.heap.size≤b:=fun b hb=>by
  rcases hn4 b hb with e|e
  ·exact zO.out b e
  ·have:=aF.out.size;omega
 have ae_:=ae YO;have hl:=ae9 hm4 ⟨HT.out.kp aH.out (fun x=>x),fun e=>by have h1:=aaX HT.out;have h2:=YO _ (.inr (.inr e));omega⟩;rw[YN,gy.out]at hl;have HL:=ae hl;have afa:Hid (f4.pb=pb):=ae (by rw[YN,gy.out]);clear hm4 hk4 hn4 YN YO hl HA aF
 go_wp2_with fail
 refine(HL.out).mono ?_;rintro e w5 ⟨rfl,p2,hp2,f5,KF,hk5,O4,ab8,_,_⟩;have a_:Hid (Kp none' w w5):=ae (aH.out.then hk5 (fun i hi h=>by have:=ae_.out i h;omega));have dB:=ae KF;have afb:Hid (f5.pb=pb):=ae (by rw[ab8,afa.out]);have HP2:=ae hp2;clear KF hk5 O4 ab8 hp2 HL aH
 go_wp2_with fail
 refine(oG.out _).mono ?_;rintro e w6 ⟨rfl,hk6⟩;have YP:=hk6.alloc (.cells #[.int .u8 ds,.int .u16 id,.int .u8 8,.int .u32 sr,.int .u32 d,.int .u16 sp,.int .u16 dp] 44);have b_:=ae (a_.out.trans YP);have hnm:=ae4 (dB.out.old YP);rw[afb.out,HP2.out]at hnm;have HNM:=ae hnm;clear hk6 YP hnm dB a_
 go_wp2_with fail
 refine(HNM.out).mono ?_;rintro e w7 ⟨rfl,rfl⟩
 go_wp2_with fail
 go_ret
 exact⟨rfl,b_.out⟩
end Go.Proofs.YtjiehhlghjnfhaaGreatDoor
namespace Go.Proofs.YtjiehhlghjnfhaaGreatDoor
open Go Go.RowKit Go.Shelf
theorem AU {P:Program} {ops:Array Oper} {rest:List Oper} {o:Oper} {a:Act} {w:World} {Q:Exit→Act→World→Prop} (hw:Region.wanted o (yielded ops a.tmps)=true) (ty:TypeId) (x:Operand) (ho:o.op=.load ty x) {g:Nat} {cs:List Value} {t:TypeId} (hb:ag w g cs t) (d:TypeDesc)
 (hx:a.eval x=.pointer (some ⟨g,0,none⟩)) (hu:P.underlying ty=some d) (hd:(match d with| .struct _| .array _ _=>true|_=>false)=true) (hi:(P.info? ty).map (·.size)=some cs.length)
 (h:wpList P ops Q rest (a.put o.dst (.agg cs.toArray)) w):wpList P ops Q (o::rest) a w:=
 wpList_step fun K hK=>by
  rw[if_pos hw];exact wp_load_row ty x ho g hx t cs.toArray (0,0) d hb.is hu hd (by rw[List.size_toArray];exact hi) (hK _ _ h)
theorem afc (k bb:Bool) (w:World) (b b2:Nat) (h:ag w b (nC.flatMap gU) 197) (h2:ag w b2 (Dc.flatMap ja) 153):
 Calls Tryz.prog 10 #[.agg (dY (FU k bb) (.slice (some ⟨b,0,none⟩) 2 2) (.slice (some ⟨b2,0,none⟩) 1 1)).toArray] w fun e w'=>∃f,e=.returned (.tuple #[.pointer (some ⟨f.pb,0,none⟩),.int .i64 0])∧iC w' f (wJ (FU k bb) (stL bb))∧(∀b,f.all b→w.heap.size≤b)∧w.heap.size≤f.lo∧Kp none' w w':=by
 cases bb
 ·exact P_ (FU k false) (RG k false) (Iq k false) rfl _ _ w (xy h 2 5 rfl (by decide)) (xy h2 1 7 rfl (by decide)) (.hp 0 []) rfl trivial
   (fun W _=>(Wx (FU k false).c _ W rfl (by cases k<;>decide) (by cases k<;>decide)).mono fun e w' ⟨b,F,h1,h2,h3,h4⟩=>⟨F7 b,F,h1,⟨b,rfl,h2⟩,h3,h4⟩)
 ·exact P_ (FU k true) (RG k true) (Iq k true) rfl _ _ w (xy h 2 5 rfl (by decide)) (xy h2 1 7 rfl (by decide)) (.ca 0 []) rfl trivial
   (fun W _=>(acM (FU k true).c _ W rfl (by cases k<;>decide) (by cases k<;>decide) (by cases k<;>decide) (by cases k<;>decide)).mono fun e w' ⟨b,F,h1,h2,h3,h4⟩=>⟨Jq b,F,h1,⟨b,rfl,h2⟩,h3,h4⟩)
theorem adt (k bb:Bool) (w:World) (b b2:Nat) (h:ag w b (nC.flatMap gU) 197) (h2:ag w b2 (Dc.flatMap ja) 153):
 Calls Tryz.prog 10 #[.agg (dY (FU k bb) (.slice (some ⟨b,0,none⟩) 2 2) (.slice (some ⟨b2,0,none⟩) 1 1)).toArray] w fun e w'=>∃f p,e=.returned (.tuple #[.pointer (some ⟨f.pb,0,none⟩),.int .i64 0])∧iC w' f p∧eF p []∧jv p.s.bk=0∧p.num=0∧(∀b,f.all b→w.heap.size≤b)∧Kp none' w w':=by
 refine(afc k bb w b b2 h h2).mono ?_;rintro e w' ⟨f,rfl,h3,h4,h5,h6⟩;exact⟨f,_,rfl,h3,aaW k bb,by cases bb<;>rfl,rfl,h4,h6⟩
theorem Qg (h:kF) (b:List UInt8):(jY h b).length=28+b.length:=by
 unfold jY qH vz;simp only[List.length_append,Iw];omega
theorem JW {a:Bc} (hb:a.body.size≤6000):(ni a).size≤6028:=by
 unfold ni;split
 ·omega
 ·rw[nD,Qg,aO];omega
theorem afd (s:ByteArray) (hs:s.size≤100000) (w:World):Calls Tryz.prog 44 #[.string s] w fun e w'=>(∃z,e=.returned (.tuple #[.string z,.int .i64 (jh (bl s))])∧(jh (bl s)=0→z=tx (lU (bl s))))∧Kp none' w w':=by
 by_cases h:jh (bl s)=0
 ·refine(IG s hs h w).mono ?_;rintro e w' ⟨rfl,hk⟩;exact⟨⟨_,by rw[h],fun _=>rfl⟩,hk⟩
 ·refine(Qn s hs h w).mono ?_;rintro e w' ⟨rfl,hk⟩;exact⟨⟨_,rfl,fun e=>absurd e h⟩,hk⟩
theorem lT.start {w W:World} {f:iM} {p:Po} (hpo:iC W f p) (hT:Tab w) (hk:Kp none' w W) (hfa:∀b,f.all b→w.heap.size≤b) {bp bw:Nat} {W3:World} (k3:Kp none' W W3) (c1:ag W3 bp [.pointer (some ⟨f.pb,0,none⟩)] 32) (c2:ag W3 bw [.slice none 0 0] 68) (h1:W.heap.size≤bp) (h2:W.heap.size≤bw):lT w W3 bp bw f p [] (.slice none 0 0):=
 have hz:=hk.size;have hhi:=hpo.hi
 ⟨hpo.old k3,c1,c2,.inl ⟨rfl,rfl⟩,hT,hk.trans k3,hfa,by omega,by omega,⟨fun e=>by have:=hpo.lt e;omega,fun e=>by omega⟩,⟨fun e=>by have:=hpo.lt e;omega,fun e=>by omega⟩,fun b e=>by cases e⟩
theorem lT.more {w0 w w2 w3:World} {bp bw:Nat} {f:iM} {p:Po} {ws:List ByteArray} {v v':Value} {z:ByteArray} (h:lT w0 w bp bw f p ws v) (k:Kp none' w w2) (ho:je w3 w0.heap.size 9 v' (x9 ws++[.string z])) (hg:w2.grownBy w3 v.ownBlock) (hv:v'.ownBlock=v.ownBlock∨v'.ownBlock=some w2.heap.size):
 lT w0 (w3.setCell ⟨bw,0,none⟩ v') bp bw f p (ws++[z]) v':=by
 have h2:=h.old k;have kg:Kp (fun b=>v.ownBlock=some b) w2 w3:=(Kp.refl _ _).grown hg (fun b e=>.inl e);have hlt:∀b,v.ownBlock=some b→b<w2.heap.size:=fun b hb=>(h2.row.blk hb).2
 have hb:ag w3 bw [v] 68:=h2.cw.kp kg (fun e=>(h2.sr bw e).2.2.2 rfl);have hp:ag w3 bp [.pointer (some ⟨f.pb,0,none⟩)] 32:=h2.cp.kp kg (fun e=>(h2.sr bp e).2.2.1 rfl);have hpo:iC w3 f p:=h2.po.kp kg (fun b hb e=>(h2.sr b e).1 hb) (fun b h1 h3 e=>(h2.sr b e).2.1 ⟨h1,h3⟩);have h3:lT w0 w3 bp bw f p (ws++[z]) v'∨True:=.inr trivial;have hs:∀b,v'.ownBlock=some b→¬f.all b∧¬(f.lo≤b∧b<f.hi)∧b≠bp∧b≠bw:=fun b e=>by
  rcases hv with e2|e2
  ·exact h2.sr b (e2.symm.trans e)
  ·have e3:w2.heap.size=b:=Option.some.inj (e2.symm.trans e);have q1:=h2.cp.lt;have q2:=h2.cw.lt;have q3:=h2.po.hi;exact⟨fun e=>by have:=h2.po.lt e;omega,fun e=>by omega,by omega,by omega⟩
 have k3:=(Kp.refl (fun b=>b=bw) w3).set (p:=⟨bw,0,none⟩) (.inl rfl) v';have ho2:je w3 w0.heap.size 9 v' (x9 (ws++[z])):=by unfold x9;rw[List.map_append];exact ho
 have hz:=h2.kp.size
 exact {po:=hpo.kp k3 (fun b hb2 e=>by have e:b=bw:=e;subst e;exact h2.sw.1 hb2) (fun b h1 h4 e=>by have e:b=bw:=e;subst e;exact h2.sw.2 ⟨h1,h4⟩)
        cp:=hp.kp k3 (fun e=>h2.ne e)
        cw:=hb.set 0 v'
        row:=ho2.kp k3 (fun b hb e=>(hs b hb).2.2.2 e)
        tab:=h2.tab
        kp:=(h2.kp.then kg (fun i hi e=>by have:=(h2.row.blk e).1;omega)).then k3 (fun i hi e=>by have e:i=bw:=e;have:=h2.Qe;omega)
        low:=h2.low
        YM:=h2.YM
        Qe:=h2.Qe
        sp:=h2.sp
        sw:=h2.sw
        sr:=hs}
theorem lT.mid {w0 w w2 w3:World} {bp bw:Nat} {f:iM} {p:Po} {ws:List ByteArray} {v:Value} (h:lT w0 w bp bw f p ws v) (k:Kp none' w w2) (hg:w2.grownBy w3 v.ownBlock):ag w3 bw [v] 68:=
 (h.old k).cw.kp ((Kp.refl (fun b=>v.ownBlock=some b) _).grown hg (fun b e=>.inl e)) (fun e=>(h.sr bw e).2.2.2 rfl)
theorem lT.YJ {w0 w:World} {bp bw:Nat} {f:iM} {p:Po} {ws:List ByteArray} {v:Value} (h:lT w0 w bp bw f p ws v):p.s.r.Ok:=by
 obtain⟨_,_,_,_,_,_,h⟩:=h.po.sh.ranks;exact h
set_option maxRecDepth 100000 in
theorem adu (l:List Bc) (hok:∀a∈l,a.Ok) (bb k:Bool) (v:Value) (w:World) (hs:Sl w v l.length 10 (l.flatMap yK)) (hT:Tab w):
 Calls Tryz.prog 7 #[v,.bool bb,.bool k] w fun e w'=>e=.returned (.bool true)∧Kp none' w w':=by
 obtain⟨ao,cap,rfl⟩:∃ao cap,v=.slice ao l.length cap:=by obtain⟨_,_,ao,cap,rfl,_⟩:=hs;exact⟨_,_,rfl⟩
 have HS:=ae hs;have HT:=ae hT;have oI:=ae hok;have HSM:=ae (fun W=>YB W);have HLV:=ae (fun W h=>aaY W h);have YQ:Hid ((Tryz.prog.info? 28).map (·.size)=some 16):=ae (by kernel_rfl);have hmax:=hs.max;have HMX:=ae hmax;have TS:qY Tryz.prog 68 9 (.string ByteArray.empty) 1 16:=⟨Tryz.underlying68,by kernel_rfl,rfl,by decide⟩;have HTS:=ae TS;clear hs hT hok hmax TS;refine ay ?_;intro PP HP
 go_enter Tryz.func7,Tryz.ntmps7
 go_wp2_with fail
 refine(HSM.out _).mono ?_;rintro e w1 ⟨b,b2,rfl,hb,hb2,hl1,hl2,hk1⟩;obtain⟨cc,hcc⟩:∃cc,dY Gx (.slice (some ⟨b,0,none⟩) 2 2) (.slice (some ⟨b2,0,none⟩) 1 1)=cc:=⟨_,rfl⟩
 have yw:=ae hcc;have Qh:cc.length=16:=by rw[←hcc];rfl
 have pO:=ae Qh;have Gh:=ae (fun W h=>adN cc Qh 2 1 (by decide) (by decide) (some ⟨b,0,none⟩) (some ⟨b2,0,none⟩) 2 1 (by rw[←hcc];rfl) (by rw[←hcc];rfl) (.slice ao l.length cap) l W h);have ab9:Hid (cc.all (·.oneCell')=true):=ae (by rw[←hcc];rfl);rw[hcc];have HB1:=ae hb;have HB2:=ae hb2;have ax:=ae hk1;have HC0:=ae (ag.new w1 [.int .i64 0,.int .i64 0,.int .i64 0,.int .i64 0,.int .i64 0,.int .u64 0,.int .i64 0,.int .u64 0,.int .u64 0,.int .u64 0,.slice none 0 0,.slice none 0 0,.int .u64 0,.int .u64 0,.int .u64 0,.int .u8 0] 28);have uo:=ae ((Kp.refl none' w1).alloc (.cells #[.int .i64 0,.int .i64 0,.int .i64 0,.int .i64 0,.int .i64 0,.int .u64 0,.int .i64 0,.int .u64 0,.int .u64 0,.int .u64 0,.slice none 0 0,.slice none 0 0,.int .u64 0,.int .u64 0,.int .u64 0,.int .u8 0] 28));clear hb hb2 hl1 hl2 hk1 hcc Qh HSM
 go_wp2_with(first
  |(refine ik rfl 28 (.tmp 7) (.tmp 20) rfl HC0.out cc (by rw[pO.out];rfl) rfl rfl (by rw[pO.out];exact YQ.out) ab9.out ?_
    intro W2 hb5 hk5;have HC2:=ae hb5;have ak:Hid (Kp none' w1 W2):=ae (uo.out.then hk5 (fun i hi e=>by have e:i=w1.heap.size:=e;omega))
    clear hb5 hk5 HC0 uo)
  |(refine AU (by exact rfl) 28 (.tmp 7) rfl HC2.out _ rfl Tryz.underlying28 rfl (by rw[pO.out];exact YQ.out) ?_))
 refine(Gh.out _ (HS.out.old (ax.out.trans ak.out))).mono ?_;rintro e w3 ⟨⟨fr,rfl,hfr⟩,hk3⟩;have aF:=ae (ak.out.trans hk3);have MW:=ae (HC2.out.kp hk3 (fun x=>x));have FY:=ae hfr;obtain⟨cb,hcb⟩:∃cb,w1.heap.size=cb:=⟨_,rfl⟩
 have HCB:=ae hcb;rw[hcb]at MW ⊢;clear hk3 hfr hcb Gh HC2 ak;cases fr
 ·obtain⟨abo,hbody⟩:=FY.out rfl;have HBD:=ae hbody;obtain⟨dd,hdd⟩:∃dd,cc.drop 2=dd:=⟨_,rfl⟩
  have uO:Hid (ag w3 cb (.int .i64 2::.int .i64 1::dd) 28):=by
   have:=MW.out;rw[←hdd];rw[←yw.out]at this ⊢;exact ae this
  have HPC:Hid (∀k bb,dY (FU k bb) (.slice (some ⟨b,0,none⟩) 2 2) (.slice (some ⟨b2,0,none⟩) 1 1)=.int .i64 (if k then 2 else 1)::.int .i64 (if bb then 2 else 1)::dd):=ae (fun k bb=>by
   rw[←hdd,←yw.out]
   cases k<;>cases bb<;>rfl)
  have HDL:Hid (dd.length=14):=ae (by rw[←hdd,List.length_drop,pO.out]);have HBF:=ae (HB1.out.kp aF.out (fun x=>x));have qo:=ae (HB2.out.kp aF.out (fun x=>x));have nY:Hid (b≠cb∧b2≠cb):=ae ⟨iV HBF.out uO.out (by decide),iV qo.out uO.out (by decide)⟩;have Uc:Hid (Kp none' w w3):=ae (ax.out.trans aF.out);have HCW:Hid (w.heap.size≤cb):=ae (by have h1:=ax.out.size;have h2:=HCB.out;omega);have c0:=uO.out.cell 0 rfl;have c1:=uO.out.cell 1 rfl;have f0:=uO.out.fz 0;have f1:=uO.out.fz 1;clear hdd hbody yw pO FY MW aF ax HB1 HB2 ab9 HCB;obtain⟨kv,hkv⟩:∃kv:Int,(if k then 2 else 1)=kv:=⟨_,rfl⟩
  obtain⟨bv,hbv⟩:∃bv:Int,(if bb then 2 else 1)=bv:=⟨_,rfl⟩
  have HKV:=ae hkv;have HBV:=ae hbv;clear hkv hbv
  go_upto_if 29 with fail
  have hx:=((uO.out.set 0 (.int .i64 1)).set 1 (.int .i64 1));have kx:=(((Kp.refl (fun z=>z=cb) w3).set (p:=⟨cb,0,none⟩) (.inl rfl) (.int .i64 1)).set (p:=⟨cb,1,none⟩) (.inl rfl) (.int .i64 1));generalize ((w3.setCell ⟨cb,0,none⟩ (.int .i64 1)).setCell ⟨cb,1,none⟩ (.int .i64 1))=W4 at hx kx ⊢;simp only[List.set_cons_zero,List.set_cons_succ]at hx;have uC:=ae hx;have YR:=ae kx;clear hx kx c0 c1 f0 f1;have f1:=uC.out.fz 1;have c1:=uC.out.cell 1 rfl
  go_cut []from 29 to 31 (fun wc=>Hid (ag wc cb (.int .i64 1::.int .i64 bv::dd) 28)∧Hid (Kp (fun z=>z=cb) w3 wc))
  case first=>
   cases bb
   ·obtain rfl:1=bv:=HBV.out
    go_wp2_with fail
    go_meet
    exact⟨uC,YR⟩
   ·obtain rfl:2=bv:=HBV.out
    go_wp2_with fail
    go_meet
    exact⟨ae (uC.out.set 1 (.int .i64 2)),ae (YR.out.set (p:=⟨cb,1,none⟩) (.inl rfl) (.int .i64 2))⟩
  obtain⟨zM,YS⟩:=hcut
  rename_i wc
  generalize wc=W5 at*;clear uC YR f1 c1
  go_upto_if 32 with fail
  have f0:=zM.out.fz 0;have c0:=zM.out.cell 0 rfl
  go_cut []from 32 to 34 (fun wc=>Hid (ag wc cb (.int .i64 kv::.int .i64 bv::dd) 28)∧Hid (Kp (fun z=>z=cb) w3 wc))
  case first=>
   cases k
   ·obtain rfl:1=kv:=HKV.out
    go_wp2_with fail
    go_meet
    exact⟨zM,YS⟩
   ·obtain rfl:2=kv:=HKV.out
    go_wp2_with fail
    go_meet
    exact⟨ae (zM.out.set 0 (.int .i64 2)),ae (YS.out.set (p:=⟨cb,0,none⟩) (.inl rfl) (.int .i64 2))⟩
  obtain⟨Uk,RH⟩:=hcut
  rename_i wc
  generalize wc=W6 at*;clear zM YS f0 c0;have hn:=adt k bb W6 b b2 (HBF.out.kp RH.out nY.out.1) (qo.out.kp RH.out nY.out.2);rw[HPC.out,HKV.out,HBV.out]at hn;have HN:=ae hn;have a_:Hid (Kp none' w W6):=ae (Uc.out.then RH.out (fun i hi e=>by have e:i=cb:=e;have:=HCW.out;omega));clear hn HPC HBF qo nY Uc HCW RH HKV HBV
  go_upto_region 9 with fail
  go_wp2_with(refine AU (by exact rfl) 28 (.tmp 7) rfl Uk.out _ rfl Tryz.underlying28 rfl (by rw[List.length_cons,List.length_cons,HDL.out];exact YQ.out) ?_)
  refine HN.out.mono ?_;rintro e w6 ⟨f,p,rfl,hpo,Bj,hbk,hnum,hfa,hk6⟩;have b_:=ae (a_.out.trans hk6);obtain⟨pb,hpb⟩:∃pb,f.pb=pb:=⟨_,rfl⟩
  have q1:=(ag.new w6 [.pointer (some ⟨pb,0,none⟩)] 32).alloc (.cells #[.slice none 0 0] 68);have q2:=ag.new (w6.alloc (.cells #[.pointer (some ⟨pb,0,none⟩)] 32)) [.slice none 0 0] 68;have qk:=((Kp.refl none' w6).alloc (.cells #[.pointer (some ⟨pb,0,none⟩)] 32)).alloc (.cells #[.slice none 0 0] 68);have e1:(w6.alloc (.cells #[.pointer (some ⟨pb,0,none⟩)] 32)).heap.size=w6.heap.size+1:=by simp
  rw[e1]at q2;have Ba:=ae (lT.start hpo HT.out b_.out (fun b hb=>Nat.le_trans a_.out.size (hfa b hb)) qk (by rw[hpb];exact q1) q2 (Nat.le_refl _) (Nat.le_succ _));have gy:=ae hpb;have oO:=ae Bj;have Es:=ae (And.intro hbk hnum);rw[hpb];obtain⟨bw,hbw⟩:∃bw,w6.heap.size+1=bw:=⟨_,rfl⟩
  obtain⟨bp,hbp⟩:∃bp,w6.heap.size=bp:=⟨_,rfl⟩
  have HBW:=ae hbw;have Xb:=ae hbp;rw[hbw,hbp]at Ba;clear hpo Bj hbk hnum hfa hk6 hpb q1 q2 qk e1 HN Uk a_ hbw hbp
  go_wp2_with fail
  rw[HBW.out,Xb.out]
  go_loopw [49] (fun i0 wr=>∃(i:Nat) (f:iM) (p:Po) (ws:List ByteArray) (v:Value),i0=.int .i64 i∧i≤l.length∧Hid (lT w wr bp bw f p ws v)∧Hid (f.pb=pb)∧Hid (eF p ws)∧Hid (jv p.s.bk≤i∧p.num≤i∧ws.length≤i)) (fun i0 _=>l.length-(intOf i0).toNat)
  case atStart=>exact⟨0,f,p,[],_,rfl,Nat.zero_le _,Ba,gy,oO,ae ⟨by have:=Es.out;omega,by have:=Es.out;omega,Nat.le_refl _⟩⟩
  case round=>
   clear Ba gy oO Es;obtain⟨i,f,p,ws,v,rfl,hi,HM,gy,oO,yx⟩:=hrel;by_cases hlt:i<l.length
   ·have hii:(i:Int)<l.length:=by omega
    obtain⟨ab,off,cap',e1,hcell⟩:=abl (HS.out.old HM.out.kp) i hlt;injection e1 with e1 _ e3
    subst e1 e3;obtain⟨a,ha⟩:∃a,l[i]=a:=⟨_,rfl⟩
    have hao:=oI.out a (by rw[←ha];exact List.getElem_mem hlt);have hbd:=HBD.out a (by rw[←ha];exact List.getElem_mem hlt);rw[ha]at hcell;have hby:=fun W=>Zz a hao hbd W
    have hys:=JW hbd;obtain⟨y,hy⟩:∃y,ni a=y:=⟨_,rfl⟩
    rw[hy]at hby hys;have Vu:=ae (fun W=>afd y (by omega) W);obtain⟨kd,⟨ds,id,eX,sr,d,sp,dp⟩,bo,tk⟩:=a;have htk:tk<18446744073709551616:=hao.mO;have d0:wr.cell? ⟨ab,off+i*10,none⟩=some (.int .u8 kd):=hcell 0 _ rfl;have d1:wr.cell? ⟨ab,off+i*10+1,none⟩=some (.int .u8 ds):=hcell 1 _ rfl;have d2:wr.cell? ⟨ab,off+i*10+2,none⟩=some (.int .u16 id):=hcell 2 _ rfl;have d3:wr.cell? ⟨ab,off+i*10+3,none⟩=some (.int .u8 eX):=hcell 3 _ rfl;have d4:wr.cell? ⟨ab,off+i*10+4,none⟩=some (.int .u32 sr):=hcell 4 _ rfl;have d5:wr.cell? ⟨ab,off+i*10+5,none⟩=some (.int .u32 d):=hcell 5 _ rfl;have d6:wr.cell? ⟨ab,off+i*10+6,none⟩=some (.int .u16 sp):=hcell 6 _ rfl;have d7:wr.cell? ⟨ab,off+i*10+7,none⟩=some (.int .u16 dp):=hcell 7 _ rfl;have d8:wr.cell? ⟨ab,off+i*10+8,none⟩=some (.string bo):=hcell 8 _ rfl;have d9:wr.cell? ⟨ab,off+i*10+9,none⟩=some (.int .u64 tk):=hcell 9 _ rfl;simp only[yK]at hby;have HBY:=ae hby;have bT:=ae (HM.out.old ((Kp.refl none' wr).alloc (.cells #[.int .u8 kd,.int .u8 ds,.int .u16 id,.int .u8 eX,.int .u32 sr,.int .u32 d,.int .u16 sp,.int .u16 dp,.string bo,.int .u64 tk] 46)));have c8:=bT.out.cp.cell 0 rfl;rw[gy.out]at c8;have HYS:=ae hys;have oG:=ae htk;clear hcell hby hy hys ha hao hbd HM htk;have afe:((kd:Int)%8=0∨(kd:Int)%8=1∨(kd:Int)%8=2∨(kd:Int)%8=3)∨(kd:Int)%8=7∨((kd:Int)%8=4∨(kd:Int)%8=5∨(kd:Int)%8=6):=by omega
    have hnb:=yx.out;rcases afe with hq|hq|hq
    ·have UH:=ae (fun(W:World) (k:Kp none' w W)=>HT.out.kp k (fun x=>x));have uB:Hid (∀z W,(Instr.buildSlice 68 1 #[(0,.string z)]).run Tryz.prog W=.ok (.slice (some ⟨W.heap.size,0,none⟩) 1 1) (W.alloc (.cells #[.string z] 9))):=ae (fun z _=>by kernel_rfl);clear c8 hnb;rcases hq with hq|hq|hq|hq
     all_goals
         go_wp2_with fail
         refine(HBY.out _).mono ?_;rintro e w2 ⟨rfl,k2⟩;have eP:=ae (bT.out.old k2);clear k2 bT HBY d0 d1 d2 d3 d4 d5 d6 d7 d8 d9
         go_wp2_with fail
         refine(Vu.out _).mono ?_;rintro e w3 ⟨⟨z,rfl,hz⟩,k3⟩;have fV:=ae (eP.out.old k3);have HZ:=ae hz;have ha:=adi fV.out.po (fV.out.tbf).tab oO.out.m0 y (by have:=HYS.out;omega) (by have:=yx.out;omega) (by have:=yx.out;omega);have Bj:=oO.out.arr fV.out.YJ (bl y);have hnn:=adr p (bl y);obtain⟨N,hN⟩:∃N,(qx p (bl y)).1.1=N:=⟨_,rfl⟩
         obtain⟨E,hE⟩:∃E,(qx p (bl y)).1.2=E:=⟨_,rfl⟩
         obtain⟨p2,hp2⟩:∃p2,(qx p (bl y)).2=p2:=⟨_,rfl⟩
         rw[hN,hE,hp2,gy.out]at ha;rw[hE,hp2]at Bj;rw[hp2]at hnn;have HA:=ae ha;have HL:=ae Bj;have HNN:=ae hnn;have c8:=fV.out.cp.cell 0 rfl;rw[gy.out]at c8;clear k3 hz ha Bj hnn hN hE hp2 eP Vu
         go_wp2_with fail
         refine(HA.out).mono ?_;rintro e w4 ⟨rfl,hto⟩;obtain⟨f2,hm4,hb4⟩:=fV.out.toZ hto;have jR:=ae hm4;have Cm:Hid (f2.pb=pb):=ae (hb4.trans gy.out);clear hto hm4 hb4 fV HA c8;by_cases hE0:E=0
         ·subst hE0;have hlr:=HL.out.1 rfl;have hz2:=HZ.out hlr.1;have HL2:Hid (eF p2 (ws++[z])):=ae (by rw[hz2];exact hlr.2);have hbs:=uB.out z;obtain⟨vo,vc,rfl⟩:=jR.out.row.shape;have c10:=jR.out.cw.cell 0 rfl;have HRA:=ae (jR.out.row.kp ((Kp.refl none' w4).alloc (.cells #[.string z] 9)) (fun _ _ x=>x));clear hlr hz2 HL HZ
          go_wp2_with(at_builtin;refine UZ HTS.out (.tmp 79) (.tmp 81) rfl rfl w.heap.size HRA.out (.string z) rfl rfl (by exact(ag.new w4 [.string z] 9).cell 0 rfl) rfl (by have:=yx.out;rw[kW];omega) (by have:=yx.out;rw[kW];omega) (by have:=jR.out.kp.size;rw[World.size_alloc];omega) ?_)
          intro v' w5 ho hg hv;have hmid:=jR.out.mid ((Kp.refl none' w4).alloc (.cells #[.string z] 9)) hg;have dB:=ae (jR.out.more ((Kp.refl none' w4).alloc (.cells #[.string z] 9)) ho hg (by rw[World.size_alloc];exact hv));obtain⟨vo2,vc2,rfl⟩:=ho.shape;rw[show(x9 ws++[Value.string z]).length=(x9 ws).length+1 by simp]at dB;have c5:=hmid.cell 0 rfl;have z5:=hmid.fz 0;clear ho hg hv hmid HRA jR hbs c10
          go_wp2_with fail
          go_roundw
          case rel=>exact⟨i+1,f2,p2,ws++[z],_,by go_num,by omega,dB,Cm,HL2,ae (by have:=yx.out;have:=HNN.out;rw[List.length_append,List.length_singleton];omega)⟩
          case measure=>simp[intOf];omega
         ·have HL2:=ae (HL.out.2 hE0);clear HL HZ
          go_wp2_with fail
          go_roundw
          case rel=>exact⟨i+1,f2,p2,ws,_,by go_num,by omega,jR,Cm,HL2,ae (by have:=yx.out;have:=HNN.out;omega)⟩
          case measure=>simp[intOf];omega
    ·have ht:=Ry bT.out.po oO.out.m0 tk oG.out (by omega);rw[gy.out]at ht;have JP:=ae ht;have HL2:=ae (oO.out.tick bT.out.po.sh.ok.now tk);clear ht hnb
     go_wp2_with fail
     refine JP.out.mono ?_;rintro e w2 ⟨rfl,hto⟩;obtain⟨f2,hm2,hb2⟩:=bT.out.toZ hto;have eP:=ae hm2;have Cm:Hid (f2.pb=pb):=ae (hb2.trans gy.out);clear hto hm2 hb2 bT JP
     go_wp2_with fail
     go_roundw
     case rel=>exact⟨i+1,f2,_,ws,v,by go_num,by omega,eP,Cm,HL2,ae (by have:=yx.out;have:=JU p tk;omega)⟩
     case measure=>simp[intOf];omega
    ·have hv:=NM bT.out oO.out (by omega);have NK:=ae hv;clear hv hnb;rcases hq with hq|hq|hq
     all_goals
         go_wp2_with(go_at_call 43;refine NK.out.mono ?_;rintro e w2 ⟨rfl,f2,ws2,v2,hm2,hb2,hl2,hlen,_⟩;have eP:=ae hm2;have HL2:=ae hl2;have Cm:Hid (f2.pb=pb):=ae (hb2.trans gy.out);have HLN:=ae hlen;clear hm2 hb2 hl2 hlen NK bT)
         go_roundw
         case rel=>exact⟨i+1,f2,_,ws2,v2,by go_num,by omega,eP,Cm,HL2,ae (by have:=yx.out;have:=HLN.out;have:=YL p;omega)⟩
         case measure=>simp[intOf];omega
   ·have hil:i=l.length:=by omega
    subst hil;have hii:¬(l.length:Int)<l.length:=by omega
    have HB2:Hid (jv p.s.bk≤120∧ws.length≤120):=ae (by have:=yx.out;omega);obtain⟨vo,vc,rfl⟩:=HM.out.row.shape;rw[kW]at HM;have c10:=HM.out.cw.cell 0 rfl;clear yx
    go_wp2_with fail
    go_loopw [19] (fun i0 wr=>∃(f:iM) (p:Po) (ws:List ByteArray) (v:Value),i0=.int .i64 (ws.length:Nat)∧Hid (lT w wr bp bw f p ws v)∧Hid (f.pb=pb)∧Hid (eF p ws)∧Hid (jv p.s.bk≤120∧ws.length≤120)) (fun i0 _=>(intOf i0).toNat)
    case atStart=>exact⟨f,p,ws,_,rfl,HM,gy,oO,HB2⟩
    case round=>
     clear HM gy oO HB2 c10;obtain⟨f,p,ws,v,rfl,HM,gy,oO,HB2⟩:=hrel;obtain⟨n,hn⟩:∃n,ws.length=n:=⟨_,rfl⟩
     have afh:n≤120:=by have:=HB2.out;omega
     by_cases h0:0<n
     ·have h0i:(0:Int)<n:=by omega
      have ht:=Ry HM.out.po oO.out.m0 1000 (by decide) (by have:=HB2.out;omega);rw[gy.out]at ht;have JP:=ae ht;have HL2:=ae (oO.out.tick HM.out.po.sh.ok.now 1000);have HFU:=ae oO.out.full;have c8:=HM.out.cp.cell 0 rfl;rw[gy.out]at c8;rw[hn];have HN:=ae hn;clear ht hn
      go_wp2_with fail
      refine JP.out.mono ?_;rintro e w2 ⟨rfl,hto⟩;obtain⟨f2,hm2,hb2⟩:=HM.out.toZ hto;have eP:=ae hm2;have Cm:Hid (f2.pb=pb):=ae (hb2.trans gy.out);have NK:=ae (NM hm2 HL2.out (by have:=HB2.out;have:=JU p 1000;omega));clear hto hm2 hb2 HM JP c8
      go_wp2_with(go_at_call 43;refine NK.out.mono ?_;rintro e w3 ⟨rfl,f3,ws3,v3,CG,hb3,hl3,_,hlen⟩;have fV:=ae CG;have HL3:=ae hl3;have aff:Hid (f3.pb=pb):=ae (hb3.trans Cm.out);have h3:=hlen HFU.out;rw[HN.out]at h3;obtain⟨vo3,vc3,rfl⟩:=CG.row.shape;rw[kW]at fV;have c3:=fV.out.cw.cell 0 rfl;have h4:(ws3.length:Int)=(n:Int)-1:=(by omega);clear CG hb3 hl3 hlen NK eP)
      go_roundw
      case rel=>exact⟨f3,_,ws3,_,by go_num,fV,aff,HL3,ae (by have:=HB2.out;have:=YL (qy p 1000);have:=JU p 1000;have:=HN.out;omega)⟩
      case measure=>simp[intOf];omega
     ·have h0i:¬(0:Int)<n:=by omega
      rw[hn];clear hn
      go_wp2_with fail
      refine(HLV.out wr HM.out.tbf.tab).mono ?_;rintro e w4 ⟨rfl,hk4⟩;have aH:=ae (HM.out.kp.trans hk4);clear hk4
      go_wp2_with fail
      exact HP.out _ _ ⟨rfl,aH.out⟩
 ·go_wp2_with fail
  refine(HLV.out w3 (HT.out.kp (ax.out.trans aF.out) (fun x=>x))).mono ?_;rintro e w4 ⟨rfl,hk4⟩;have aH:=ae (aF.out.trans hk4);clear hk4
  go_wp2_with fail
  exact HP.out _ _ ⟨rfl,ax.out.trans aH.out⟩
end Go.Proofs.YtjiehhlghjnfhaaGreatDoor
