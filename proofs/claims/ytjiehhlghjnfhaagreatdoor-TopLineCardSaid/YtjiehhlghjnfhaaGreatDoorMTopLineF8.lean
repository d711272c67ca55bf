/- Heaps (layer 9): Len, New, Push. -/
import Derived.Test.YtjiehhlghjnfhaaGreatDoorMTopLineF7
import Derived.BigQuiet
import Derived.Deep.QuietTactic
import Derived.Deep.RegionHeld3
import Derived.Deep.Cut
import Derived.Test.YtjiehhlghjnfhaaGreatDoorMTopLineF0
import Derived.Laws.MakeOwn
set_option linter.unusedVariables false
set_option linter.unusedSimpArgs false
set_option maxHeartbeats 4000000
namespace Go.Proofs.YtjiehhlghjnfhaaGreatDoor
open Go Go.RowKit Go.Shelf
theorem Ec {P:Program} {t e:TypeId} {z:Value} {size bytes:Nat} (T:qY P t e z size bytes) {ops:Array Oper} {o:Oper} {a:Act} {w:World} {K:Act→World→Prop} {Q:Exit→Act→World→Prop} {E:Prop} (s x:Operand)
 (hgd:o.guard=none) (ho:o.op=.call {callee:=.builtin .append,args:=#[s,x],argTypes:=#[t,t]}) (base:Nat) {v:Value} {n:Nat} {xs:List Value} (hown:w.ownsRow base e size v n xs)
 {b c:Nat} (news:List Value) (hs:a.eval s=v) (hx:a.eval x=.slice (some ⟨b,0,none⟩) 1 c) (hl:news.length=size) {fr:Nat×Nat} (hblk:w.heap[b]? =some (.cells news.toArray e fr)) (h1:news.all (·.oneCell')=true)
 (hbytes:(n+1)*bytes≤140737488355328) (h63:n<9223372036854775807) (hbase:base≤w.heap.size)
 (h:∀g cap w',w'.ownsRow base e size (.slice (some ⟨g,0,none⟩) (n+1) cap) (n+1) (xs++news)→w.grownBy w' v.ownBlock→(v.ownBlock=some g∨g=w.heap.size)→K (a.put o.dst (.slice (some ⟨g,0,none⟩) (n+1) cap)) w'):
 if Region.wanted o (yielded ops a.tmps)=true then Oper.wp P o a w K Q else E:=by
 have hw:Region.wanted o (yielded ops a.tmps)=true:=by simp[Region.wanted,hgd]
 rw[if_pos hw];obtain⟨i,hi,hz0,hz1,hz2⟩:=info_parts T.info
 obtain⟨v',w',hr,hown',hg,hnil,hat⟩:=run_append_own_at (P:=P) w base t o.type e i z size bytes T.ht hi hz0 hz1 hz2 T.hz T.pos v n xs hown ⟨b,0,none⟩ 1 c news (by simpa using hl) (by
  intro j u hu;have e:(⟨b,0,none⟩:Addr).add j=⟨b,j,none⟩:=by unfold Addr.add;split<;>simp_all
  rw[e];simp[World.cell?,hblk,hu]) (by simpa using h1) (by unfold maxLen;omega) hbytes hbase
 unfold Oper.wp execOp;simp only[ho,resolve,invoke,builtin,Sem.run_bind,Sem.run_pure,Result.andThen_ok,List.map_toArray,List.map_cons,List.map_nil,hs,hx,hr];rcases hown'.2 with⟨_,h0⟩|⟨g,cap,cur,rfl,_⟩
 ·omega
 ·exact h g cap w' hown' hg (by rcases hat with e|e;(exact .inl (e.symm.trans rfl));exact .inr (by simpa[Value.ownBlock]using e))
structure nP (w:World) (B hb:Nat) (vc:Value) (came room:Nat) (l:List (En Pk)):Prop where
 top:ag w hb [vc,.int .u64 came,.int .i64 room] 353
 row:w.ownsRow B 459 5 vc l.length (l.flatMap jP)
def HF (hb:Nat) (vc:Value):Nat→Prop:=fun b=>b=hb∨vc.ownBlock=some b
theorem nP.kp {S:Nat→Prop} {w w':World} {B hb:Nat} {vc:Value} {came room:Nat} {l:List (En Pk)} (h:nP w B hb vc came room l) (k:Kp S w w') (hs:∀b,HF hb vc b→¬S b):nP w' B hb vc came room l:=
 ⟨h.top.kp k (hs _ (.inl rfl)),aK h.row k (fun b hb=>hs b (.inr hb))⟩
theorem nP.old {w w':World} {B hb:Nat} {vc:Value} {came room:Nat} {l:List (En Pk)} (h:nP w B hb vc came room l) (k:Kp none' w w'):nP w' B hb vc came room l:=h.kp k (fun _ _ x=>x)
theorem nP.lt {w:World} {B hb:Nat} {vc:Value} {came room:Nat} {l:List (En Pk)} (h:nP w B hb vc came room l) {b:Nat} (hb:HF hb vc b):b<w.heap.size:=by
 rcases hb with rfl|hb
 ·exact h.top.lt
 ·exact(aG h.row hb).2
theorem hLen (w:World) (B hb:Nat) (vc:Value) (came room:Nat) (l:List (En Pk)) (h:nP w B hb vc came room l):Calls Tryz.prog 269 #[.pointer (some ⟨hb,0,none⟩)] w fun e w'=>e=.returned (.int .i64 l.length)∧w=w':=by
 have c:=h.top.cell 0 rfl;obtain⟨ao,cap,rfl⟩:=dP h.row;clear h
 go_enter Tryz.func269,Tryz.ntmps269
 go_wp2
 go_ret
 exact⟨rfl,rfl⟩
theorem hNew (room:Nat) (h1:1≤room) (h2:room≤4096) (w:World):Calls Tryz.prog 147 #[.int .i64 room] w fun e w'=>∃hb,e=.returned (.tuple #[.pointer (some ⟨hb,0,none⟩),.int .i64 0])∧nP w' w.heap.size hb (.slice none 0 0) 0 room []∧w.heap.size≤hb∧Kp none' w w':=by
 have h1':¬(room:Int)<1:=by omega
 have h2':¬(room:Int)>4096:=by omega
 go_enter Tryz.func147,Tryz.ntmps147
 go_wp2
 go_ret2
 exact⟨_,rfl,⟨ag.new _ _ _,rfl,.inl ⟨rfl,rfl⟩⟩,Nat.le_refl _,(Kp.refl _ _).alloc _⟩
def KT:Pk:=⟨0,0,0⟩
def sO:En Pk:=⟨0,0,KT⟩
def adH:Value:=.agg #[.int .u64 0,.int .u64 0,.int .u32 0,.int .u32 0,.int .u64 0]
theorem tEn:qY Tryz.prog 351 459 adH 5 32:=⟨Tryz.underlying351,by kernel_rfl,rfl,by decide⟩
set_option maxRecDepth 100000 in
theorem hPush (w:World) (B hb:Nat) (vc:Value) (came room:Nat) (l:List (En Pk)) (h:nP w B hb vc came room l) (hB:B≤w.heap.size) (hl:l.length<room) (hr:room≤4096) (hc:came<9223372036854775807) (hH:jk sO l) (r:Nat) (x:Pk):
 Calls Tryz.prog 276 #[.pointer (some ⟨hb,0,none⟩),.int .u64 r,.agg (rG x).toArray] w fun e w'=>e=.returned (.bool true)∧∃rM l',nP w' B hb rM (came+1) room l'∧jk sO l'∧l'.Perm (l++[⟨r,came,x⟩])∧
  Kp (HF hb vc) w w'∧(rM.ownBlock=vc.ownBlock∨∃g,rM.ownBlock=some g∧w.heap.size≤g):=by
 obtain⟨fl,id,ln⟩:=x;obtain⟨ao,cap,rfl⟩:=dP h.row;have HM:=ae h;have c0:=h.top.cell 0 rfl;have c1:=h.top.cell 1 rfl;have c2:=h.top.cell 2 rfl;have HU:=ae (Tj (z:=sO) (⟨r,came,⟨fl,id,ln⟩⟩:En Pk) hH);have hbl:=h.top.lt;clear h hH;generalize hN:l.length=n at*;have hnr:((n:Int)≥room)=False:=by simp;omega
 show Calls Tryz.prog _ #[.pointer (some ⟨hb,0,none⟩),.int .u64 r,.agg #[.int .u32 (fl:Int),.int .u32 (id:Int),.int .u64 (ln:Int)]] w _
 go_enter Tryz.func276,Tryz.ntmps276
 go_wp2
 go_quiet (fail)
 go_wp2_with fail
 have ax:=ae (((Kp.refl none' w).alloc (.cells #[.int .u32 (fl:Int),.int .u32 (id:Int),.int .u64 (ln:Int)] 62)).drewN nq);have gX:=ae ((ag.new w [.int .u32 (fl:Int),.int .u32 (id:Int),.int .u64 (ln:Int)] 62).drewN nq);generalize (w.alloc (.cells #[.int .u32 (fl:Int),.int .u32 (id:Int),.int .u64 (ln:Int)] 62)).drewN nq=W1 at*;have bT:=ae (HM.out.old ax.out);have hsz1:=ax.out.size;have d0:=bT.out.top.cell 0 rfl;have d1:=bT.out.top.cell 1 rfl;have x0:=gX.out.cell 0 rfl;have x1:=gX.out.cell 1 rfl;have x2:=gX.out.cell 2 rfl;have N1:Hid (some hb≠(Value.slice ao n cap).ownBlock):=fun e=>az bT.out.row bT.out.top (by decide) e.symm
 have N2:Hid (some w.heap.size≠(Value.slice ao n cap).ownBlock):=fun e=>az bT.out.row gX.out (by decide) e.symm
 have HR1:Hid (W1.ownsRow B 459 5 (.slice ao n cap) n (l.flatMap jP)):=by have:=bT.out.row;rw[hN]at this;exact this
 have N3:Hid (w.heap.size≠hb):=by show _≠_;omega
 have afj:hb<W1.heap.size:=by omega
 have afk:w.heap.size<W1.heap.size:=gX.out.lt;clear c0 c1 c2
 go_cut []from 21 (fun wc=>∃g cap2,Hid (ag wc hb [.slice (some ⟨g,0,none⟩) (n+1) cap2,.int .u64 came,.int .i64 room] 353)∧Hid (wc.ownsRow B 459 5 (.slice (some ⟨g,0,none⟩) (n+1) cap2) (n+1) ((l++[(⟨r,came,⟨fl,id,ln⟩⟩:En Pk)]).flatMap jP))∧Hid (Kp (HF hb (.slice ao n cap)) w wc)∧Hid ((Value.slice ao n cap).ownBlock=some g∨w.heap.size≤g))
 case first=>
  go_region_law ((refine Ec tEn (.tmp 25) (.tmp 33) rfl rfl B (v:=.slice ao n cap) ((HR1.out.alloc _).drew) (jP ⟨r,came,⟨fl,id,ln⟩⟩) rfl rfl rfl (fr:=(0,0)) (x_ _ _ _ (by simp)) rfl (by omega) (by omega) (by simp;omega) ?_);intro g3 cap3 w3 hown hgrow hat;have HT3:=((bT.out.top.alloc (.cells #[.int .u64 (r:Int),.int .u64 (came:Int),.int .u32 (fl:Int),.int .u32 (id:Int),.int .u64 (ln:Int)] 459)).drew).grown hgrow N1.out;have fz3:=HT3.fz 0;have e30:=HT3.cell 0 rfl)
  all_goals
   have rJ:=dX hown (a:=⟨hb,0,none⟩) (fun b hbb e=>az hown HT3 (by decide) (by rw[hbb,e])) (.slice (some ⟨g3,0,none⟩) (n+1) cap3);have HB4:=HT3.set 0 (.slice (some ⟨g3,0,none⟩) (n+1) cap3);have aH:Kp (HF hb (.slice ao n cap)) w (w3.setCell ⟨hb,0,none⟩ (.slice (some ⟨g3,0,none⟩) (n+1) cap3)):=((((ax.out.mono (fun _ _ x=>x.elim)).alloc _).drew).grown hgrow (fun k e=>.inl (.inr e))).set (.inl (.inl rfl)) _;have CP:(Value.slice ao n cap).ownBlock=some g3∨w.heap.size≤g3:=hat.imp_right (fun e=>by rw[e];simp;omega)
   go_wp2_with fail
   go_meet
   case rel=>exact⟨g3,cap3,ae HB4,ae (by show World.ownsRow _ _ _ _ _ _ _;rw[List.flatMap_append];simpa using rJ),ae aH,ae CP⟩
 case rest=>
  obtain⟨g,cap2,HB,HO,HK,HG⟩:=hcut;have b0:=HB.out.cell 0 rfl;have b1:=HB.out.cell 1 rfl;have fz:=HB.out.fz 1;have HW:IntKind.u64.wrap ((came:Int)+1)=(came:Int)+1:=by rw[IntKind.wrap_u64];omega
  have d_:=ae (HB.out.set 1 (.int .u64 ((came:Int)+1)));have uA:=ae (dX HO.out (a:=⟨hb,1,none⟩) (fun b hbb e=>az HO.out HB.out (by decide) (by rw[hbb,e])) (.int .u64 ((came:Int)+1)));have a_:Hid (Kp (HF hb (.slice ao n cap)) w (wc.setCell ⟨hb,1,none⟩ (.int .u64 ((came:Int)+1)))):=ae (HK.out.set (.inl (.inl rfl)) _)
  go_wp2_with fail
  refine(hUp sO (n:=n+1) (l++[(⟨r,came,⟨fl,id,ln⟩⟩:En Pk)]) (by simp[hN]) (by omega) n HU.out (by omega) _ d_.out uA.out).mono ?_;rintro e w6 ⟨rfl,l',h1,h2,h3,h4⟩;have hne:hb≠g:=fun e=>az HO.out HB.out (by decide) (by rw[e];rfl)
  have bV:=ae (d_.out.kp h4 (fun e=>hne e));have Ze:=ae h1;have I4:=ae h2;have xH:=ae h3
  have b_:Hid (Kp (HF hb (.slice ao n cap)) w w6):=ae (a_.out.then h4 (fun b hb2 hg=>by
   subst hg;rcases HG.out with e|e
   ·exact .inr e
   ·omega))
  clear h1 h2 h3 h4 b0 b1 fz
  go_wp2_with fail
  go_ret
  have hl':l'.length=n+1:=by rw[I4.out.length_eq];simp[hN]
  refine⟨rfl,_,l',⟨by have:=bV.out;simpa using this,by rw[hl'];exact xH.out⟩,Ze.out,I4.out,b_.out,?_⟩;rcases HG.out with e|e
  ·exact .inl e.symm
  ·exact .inr ⟨g,rfl,e⟩
theorem fZ:(Tryz.prog.info? 62).map (·.size)=some 3:=by kernel_rfl
theorem gY {P:Program} {f:Func} {s u1 u2:Tmp} {ty:TypeId} (hf:f.results=#[.tmp u1,.cell s ty,.tmp u2]) {R:Ending→World→Prop} {W:World} {g:Nat} {cs:List Value} {t:TypeId} {T:Array Value} (hb:ag W g cs t) (d:TypeDesc) (hu:P.underlying ty=some d) (hd:(match d with| .struct _| .array _ _=>true|_=>false)=true)
 (hi:(P.info? ty).map (·.size)=some cs.length) (h2:T.getD s undef=.pointer (some ⟨g,0,none⟩)) (hR:R (.returned (.tuple #[T.getD u1 undef,.agg cs.toArray,T.getD u2 undef])) W):bodyPost P f R Exit.ret {tmps:=T,defers:=[]} W:=by
 refine bodyPost_ret (v:=.tuple #[T.getD u1 undef,.agg cs.toArray,T.getD u2 undef]) ?_ rfl hR;have h2':T[s]?.getD undef=.pointer (some ⟨g,0,none⟩):=by simpa using h2
 simp[results,hf,h2',asAddr,run_loadVar_row W g t ty cs.toArray (0,0) d hb.is hu hd (by rw[List.size_toArray];exact hi)]
set_option maxRecDepth 100000 in
theorem Ov (w:World) (B hb:Nat) (vc:Value) (came room:Nat) (h:nP w B hb vc came room []):
 Calls Tryz.prog 274 #[.pointer (some ⟨hb,0,none⟩)] w fun e w'=>e=.returned (.tuple #[.int .u64 0,.agg (rG KT).toArray,.bool false])∧Kp none' w w':=by
 have HL:=ae (fun W (k:Kp none' w W)=>hLen W B hb vc came room [] (h.old k));clear h;show Calls _ _ _ _ fun e w'=>e=.returned (.tuple #[.int .u64 0,.agg #[.int .u32 0,.int .u32 0,.int .u64 0],.bool false])∧Kp none' w w'
 go_enter Tryz.func274,Tryz.ntmps274
 go_wp2_with fail
 refine(HL.out _ (((Kp.refl none' w).alloc _).alloc _)).mono ?_;rintro e w2 ⟨rfl,rfl⟩
 go_wp2_with fail
 go_region
 all_goals
  go_wp2_with fail
  exact gY (by exact rfl) (((ag.new w [.int .u32 0,.int .u32 0,.int .u64 0] 62).alloc _).drew) _ Tryz.underlying62 rfl fZ (by exact rfl) ⟨rfl,(((Kp.refl none' w).alloc _).alloc _).drew⟩
set_option maxRecDepth 100000 in
theorem Ed (w:World) (B hb:Nat) (vc:Value) (came room:Nat) (l:List (En Pk)) (h:nP w B hb vc came room l) (h0:0<l.length) (h1:l.length≤100000):
 Calls Tryz.prog 274 #[.pointer (some ⟨hb,0,none⟩)] w fun e w'=>e=.returned (.tuple #[.int .u64 (dH sO l 0).rank,.agg (rG (dH sO l 0).x).toArray,.bool true])∧Kp none' w w':=by
 have HL:=ae (fun W (k:Kp none' w W)=>hLen W B hb vc came room l (h.old k));obtain⟨g,cap,rfl,hg⟩:=dJ h.row h0;rw[eH h0];have hce:∀k u,(jP l[0])[k]? =some u→w.cell? ⟨g,k,none⟩=some u:=fun k u hu=>by
  have:=eY h.row (i:=0*5+k) (u:=u) (by
   rw[flat_get jP 5 gI _ _ _ (by have:=(List.getElem?_eq_some_iff.1 hu).1;simpa[jP,rG]using this),List.getElem?_eq_getElem h0];exact hu)
  simpa using this
 have c0:=h.top.cell 0 rfl;have hbl:=h.top.lt;have hgl:=(aG h.row rfl).2;generalize l[0]=e0 at*;obtain⟨r,cm,⟨fl,id,ln⟩⟩:=e0;have e0:=hce 0 _ rfl;have e2:=hce 2 _ rfl;have e3:=hce 3 _ rfl;have e4:=hce 4 _ rfl;have hn0:((l.length:Int)==0)=false:=by rw[beq_eq_false_iff_ne];omega
 have hn1:(0:Int)<l.length:=by omega
 clear h hce;generalize l.length=n at*;show Calls _ _ _ _ fun e w'=>e=.returned (.tuple #[.int .u64 (r:Int),.agg #[.int .u32 (fl:Int),.int .u32 (id:Int),.int .u64 (ln:Int)],.bool true])∧Kp none' w w'
 go_enter Tryz.func274,Tryz.ntmps274
 go_wp2_with fail
 refine(HL.out _ (((Kp.refl none' w).alloc _).alloc _)).mono ?_;rintro e w2 ⟨rfl,rfl⟩
 go_wp2_with fail
 go_region
 all_goals
  go_wp2_with fail
  exact gY (by exact rfl) (((ag.new w [.int .u32 (fl:Int),.int .u32 (id:Int),.int .u64 (ln:Int)] 62).alloc _).drew) _ Tryz.underlying62 rfl fZ (by exact rfl) ⟨rfl,(((Kp.refl none' w).alloc _).alloc _).drew⟩
theorem Tm {w:World} {base:Nat} {e:TypeId} {size n g cap:Nat} {xs:List Value} (h:w.ownsRow base e size (.slice (some ⟨g,0,none⟩) n cap) n xs) (k:Nat) (hk:k≤n):w.ownsRow base e size (.slice (some ⟨g,0,none⟩) k cap) k (xs.take (k*size)):=by
 have hks:k*size≤n*size:=Nat.mul_le_mul_right _ hk;refine⟨by rw[List.length_take,h.1];omega,?_⟩;rcases h.2 with⟨h,_⟩|⟨g',cap',cur,hv,hg,hh,h1,h2,h3,h4⟩
 ·cases h
 ·cases hv
  refine .inr ⟨g,cap,cur,rfl,hg,hh,by omega,h2,h3,?_⟩;rw[←h4,List.take_take,Nat.min_eq_left hks]
theorem KU {w:World} {base:Nat} {e:TypeId} {size n g cap:Nat} {xs:List Value} (h:w.ownsRow base e size (.slice (some ⟨g,0,none⟩) n cap) n xs):n≤cap∧cap≤maxLen:=by
 rcases h.2 with⟨h,_⟩|⟨g',cap',cur,hv,hg,hh,h1,h2,h3,h4⟩
 ·cases h
 ·cases hv;exact⟨h1,h2⟩
theorem Ox {α:Type} (enc:α→List Value) (size:Nat) (hl:∀a,(enc a).length=size) (l:List α) (k:Nat) (hk:k≤l.length):(l.flatMap enc).take (k*size)=(l.take k).flatMap enc:=by
 have e:l=l.take k++l.drop k:=(List.take_append_drop k l).symm;have hlen:((l.take k).flatMap enc).length=k*size:=by rw[dQ enc size hl];rw[List.length_take];congr 1;omega
 conv=>lhs;rw[e,List.flatMap_append]
 rw[←hlen,List.take_left'];rfl
set_option maxRecDepth 100000 in
theorem hPop (w:World) (B hb:Nat) (vc:Value) (came room:Nat) (l:List (En Pk)) (h:nP w B hb vc came room l) (h0:0<l.length) (h1:l.length≤100000) (hH:jk sO l):
 Calls Tryz.prog 275 #[.pointer (some ⟨hb,0,none⟩)] w fun e w'=>e=.returned (.tuple #[.int .u64 (dH sO l 0).rank,.agg (rG (dH sO l 0).x).toArray,.bool true])∧
  ∃rM l',nP w' B hb rM came room l'∧jk sO l'∧(dH sO l 0::l').Perm l∧Kp (HF hb vc) w w'∧rM.ownBlock=vc.ownBlock:=by
 have HP:=ae (fun W (k:Kp none' w W)=>Ed W B hb vc came room l (h.old k) h0 h1);obtain⟨g,cap,rfl,hg⟩:=dJ h.row h0;obtain⟨n,hn⟩:∃n,l.length=n:=⟨_,rfl⟩
 rw[hn]at h0 h1;obtain⟨q,hq⟩:∃q,n-1=q:=⟨_,rfl⟩
 have hqi:(n:Int)-1=(q:Int):=by omega
 have hcap:=KU h.row;rw[hn]at hcap;have hqc:(q:Int)≤cap:=by omega
 have hqn:(q:Int)<n:=by omega
 have hn1:(0:Int)<n:=by omega
 have hne:g≠hb:=fun e=>az h.row h.top (by decide) (by rw[e];rfl)
 have HM:=ae h;have HN:=ae hn;have HH:=ae hH;clear h hH hcap;rw[hn]at HM;obtain⟨e0,he0⟩:∃e0,dH sO l 0=e0:=⟨_,rfl⟩
 rw[he0]at HP;rw[he0];have Oq:=ae he0;clear he0;obtain⟨r,cm,⟨fl,id,ln⟩⟩:=e0
 go_enter Tryz.func275,Tryz.ntmps275
 go_wp2_with fail
 refine(HP.out _ ((Kp.refl none' w).alloc _)).mono ?_;rintro e w2 ⟨rfl,hk2⟩;have pK:=ae ((ag.new w [.int .u32 0,.int .u32 0,.int .u64 0] 62).kp hk2 (fun x=>x));have ak:=ae (((Kp.refl none' w).alloc (.cells #[.int .u32 0,.int .u32 0,.int .u64 0] 62)).trans hk2);have eP:=ae (HM.out.old ak.out);have hsz2:w.heap.size<w2.heap.size:=pK.out.lt;have c2:=eP.out.top.cell 0 rfl;have Ee:=eP.out.top.lt;clear hk2;simp only[rG]
 go_wp2_with fail
 have aF:=ae (ak.out.alloc (.cells #[.int .u32 (fl:Int),.int .u32 (id:Int),.int .u64 (ln:Int)] 62));have fV:=ae (eP.out.old ((Kp.refl none' w2).alloc (.cells #[.int .u32 (fl:Int),.int .u32 (id:Int),.int .u64 (ln:Int)] 62)));have Tn:=ae (pK.out.alloc (.cells #[.int .u32 (fl:Int),.int .u32 (id:Int),.int .u64 (ln:Int)] 62));have yH:=ae (ag.new w2 [.int .u32 (fl:Int),.int .u32 (id:Int),.int .u64 (ln:Int)] 62);obtain⟨y,hy⟩:∃y,w2.heap.size=y:=⟨_,rfl⟩
 rw[hy]at yH hsz2 ⊢;have hyw:w.heap.size<y:=hsz2;generalize w2.alloc (.cells #[.int .u32 (fl:Int),.int .u32 (id:Int),.int .u64 (ln:Int)] 62)=W3 at*;have VR:Hid (W3.ownsRow B 459 5 (.slice (some ⟨g,0,none⟩) n cap) n (l.flatMap jP)):=by have:=fV.out.row;rw[HN.out]at this;exact this
 clear c2 Ee;have c3:=fV.out.top.cell 0 rfl;have L1:=ae (dF VR.out q (by omega));refine af [] [0,1,2,3,4,5,6,7,8,9,10] 11 (by kernel_rfl) (by kernel_rfl) (fun c a d u w h=>by cases d<;>exact h) ?_;simp only[pick,bn];show aA _ _ _ _ _ _
 repeat((first
  |refine ah (by exact rfl) (bW rfl rfl L1.out) ?_
  |refine ah (by exact rfl) (by as_aux_lemma=>intro W hK;have e0:=hK.cell c3 (fun x=>x);go_simp;exact rfl) ?_
  |refine ai (by exact rfl) ?_);simp only[Act.put,aY])
 show ∀W,_→wpList _ _ _ _ _ _
 intro W4 hK4;have rJ:=ae (aK VR.out hK4 (fun _ _ x=>x));have HB4:=ae (fV.out.top.kp hK4 (fun x=>x));have uC:=ae (Tn.out.kp hK4 (fun x=>x));have KW:=ae (yH.out.kp hK4 (fun x=>x));have aH:Hid (Kp none' w W4):=ae (aF.out.trans hK4);clear hK4 c3;obtain⟨a,ha⟩:∃a,l[q]'(by omega)=a:=⟨_,rfl⟩
 rw[ha];have HA:=ae ha;clear ha
 go_wp2_with(first
  |(refine dh rfl 459 (.tmp 33) (.tmp 32) rfl jP 5 gI l rJ.out 0 (by omega) a rfl rfl rfl (lF a) rfl ?_
    intro W5 yG hk5;have uA:=ae yG;have d_:=ae (HB4.out.kp hk5 (fun e=>hne e.symm));have zM:=ae (uC.out.kp hk5 (fun e=>az rJ.out uC.out (by decide) (by rw[e];rfl)));have Oy:=ae (KW.out.kp hk5 (fun e=>az rJ.out KW.out (by decide) (by rw[e];rfl)));have a_:Hid (Kp (fun b=>b=g) w W5):=ae ((aH.out.mono (fun _ _ x=>x.elim)).trans hk5);have c5:=d_.out.cell 0 rfl
    clear yG hk5)
  |(refine dh rfl 459 (.tmp 40) (.tmp 39) rfl jP 5 gI (l.set 0 a) uA.out q (by rw[List.length_set];omega) sO rfl rfl rfl (lF sO) rfl ?_
    intro W6 pV hk6;have xH:=ae pV;have bV:=ae (d_.out.kp hk6 (fun e=>hne e.symm));have Tq:=ae (zM.out.kp hk6 (fun e=>az uA.out zM.out (by decide) (by rw[e];rfl)));have I5:=ae (Oy.out.kp hk6 (fun e=>az uA.out Oy.out (by decide) (by rw[e];rfl)));have b_:Hid (Kp (fun b=>b=g) w W6):=ae (a_.out.trans hk6);have c6:=bV.out.cell 0 rfl;have fz6:=bV.out.fz 0
    clear pV hk6 c5))
 have HD:Hid (uy sO ((l.set 0 a).take q) 0∧((⟨r,cm,⟨fl,id,ln⟩⟩:En Pk)::(l.set 0 a).take q).Perm l):=by
  show _∧_;by_cases hn2:1<l.length
  ·have hd:=KQ HH.out hn2;have e1:dH sO l (l.length-1)=a:=by
    have e2:l.length-1=q:=by omega
    rw[e2,eH (by omega)];exact HA.out
   rw[e1,Oq.out]at hd;have e2:l.length-1=q:=by omega
   rw[e2]at hd;exact hd
  ·have hq0:q=0:=by omega
   subst hq0;rw[List.take_zero];refine⟨⟨fun j hj=>by simp at hj,fun j hj=>by simp at hj⟩,?_⟩;obtain⟨b,hb1⟩:=List.length_eq_one_iff.1 (show l.length=1 by omega);have h3:=Oq.out;rw[hb1]at h3 ⊢;have h4:b=_:=h3;rw[h4]
 have HS:Hid (((l.set 0 a).set q sO).take q=(l.set 0 a).take q):=by
  show _=_;apply List.ext_getElem?
  intro j;by_cases hj:j<q
  ·rw[List.getElem?_take_of_lt hj,List.getElem?_take_of_lt hj,List.getElem?_set_ne (by omega)]
  ·rw[List.getElem?_eq_none (by rw[List.length_take];omega),List.getElem?_eq_none (by rw[List.length_take];omega)]
 have HO7:Hid ((W6.setCell ⟨hb,0,none⟩ (.slice (some ⟨g,0,none⟩) q cap)).ownsRow B 459 5 (.slice (some ⟨g,0,none⟩) q cap) q (((l.set 0 a).take q).flatMap jP)):=by
  show World.ownsRow _ _ _ _ _ _ _;have h2:=Tm xH.out q (by omega);rw[Ox jP 5 gI _ _ (by simp;omega),HS.out]at h2;exact dX h2 (fun b hbb e=>by cases hbb;exact hne e) _
 have jw:=ae (bV.out.set 0 (.slice (some ⟨g,0,none⟩) q cap));have Zf:=ae (Tq.out.bY (a:=⟨hb,0,none⟩) (iV Tq.out bV.out (by decide)) (.slice (some ⟨g,0,none⟩) q cap));have Tt:=ae (I5.out.bY (a:=⟨hb,0,none⟩) (iV I5.out bV.out (by decide)) (.slice (some ⟨g,0,none⟩) q cap));have oH:Hid (Kp (HF hb (.slice (some ⟨g,0,none⟩) n cap)) w (W6.setCell ⟨hb,0,none⟩ (.slice (some ⟨g,0,none⟩) q cap))):=ae ((b_.out.mono (fun b _ e=>.inr (by rw[e];rfl))).set (.inl (.inl rfl)) _);have hlt:((l.set 0 a).take q).length=q:=by rw[List.length_take,List.length_set];omega
 refine(aco sO (n:=q) _ hlt (by omega) 0 HD.out.1 (by omega) _ jw.out HO7.out).mono ?_;rintro e w8 ⟨rfl,l',g1,g2,g3,g4⟩;have lQ:=ae (jw.out.kp g4 (fun e=>hne e.symm));have Oz:=ae (Zf.out.kp g4 (fun e=>az HO7.out Zf.out (by decide) (by rw[e];rfl)));have Ef:=ae (Tt.out.kp g4 (fun e=>az HO7.out Tt.out (by decide) (by rw[e];rfl)));have mG:Hid (Kp (HF hb (.slice (some ⟨g,0,none⟩) n cap)) w w8):=ae (oH.out.trans (g4.mono (fun b _ e=>.inr (by rw[e];rfl))));have Tu:=ae g1;have HP8:Hid (((⟨r,cm,⟨fl,id,ln⟩⟩:En Pk)::l').Perm l):=ae ((List.Perm.cons _ g2).trans HD.out.2);have HL8:Hid (l'.length=q):=ae (by rw[g2.length_eq,hlt]);have um:=ae g3;have y0:=Ef.out.cell 0 rfl;have y1:=Ef.out.cell 1 rfl;have y2:=Ef.out.cell 2 rfl;have x0:=Oz.out.cell 0 rfl;have x1:=Oz.out.cell 1 rfl;have x2:=Oz.out.cell 2 rfl;have xf:=fun j=>Oz.out.fz j
 have hxy:w.heap.size≠y:=by omega
 clear g1 g2 g3 g4 hlt c6 fz6
 go_wp2_with fail
 go_region
 all_goals
  go_wp2_with fail
  have VS:Kp (fun b=>b=w.heap.size) w8 (((w8.setCell ⟨w.heap.size,0,none⟩ (.int .u32 (fl:Int))).setCell ⟨w.heap.size,1,none⟩ (.int .u32 (id:Int))).setCell ⟨w.heap.size,2,none⟩ (.int .u64 (ln:Int))).drew:=((((Kp.refl (fun b=>b=w.heap.size) w8).set (p:=⟨w.heap.size,0,none⟩) (.inl rfl) _).set (p:=⟨w.heap.size,1,none⟩) (.inl rfl) _).set (p:=⟨w.heap.size,2,none⟩) (.inl rfl) _).drew;have hwg:g≠w.heap.size:=fun e=>az um.out Oz.out (by decide) (by rw[e];rfl)
  refine gY (by exact rfl) ((((Oz.out.set 0 (.int .u32 (fl:Int))).set 1 (.int .u32 (id:Int))).set 2 (.int .u64 (ln:Int))).drew) _ Tryz.underlying62 rfl fZ (by exact rfl) ⟨rfl,.slice (some ⟨g,0,none⟩) q cap,l',⟨?_,?_⟩,Tu.out,HP8.out,?_,rfl⟩
  ·exact lQ.out.kp VS (iV lQ.out Oz.out (by decide))
  ·rw[HL8.out];exact aK um.out VS (fun b hb2=>by cases hb2;exact hwg)
  ·exact mG.out.then VS (fun b hb2 e=>by omega)
end Go.Proofs.YtjiehhlghjnfhaaGreatDoor
namespace Go.Proofs.YtjiehhlghjnfhaaGreatDoor
open Go.RowKit
def Nw (w:World) (F F':Nat→Prop):Prop:=∀b,F' b→F b∨w.heap.size≤b
theorem Nw.refl (w:World) (F:Nat→Prop):Nw w F F:=fun _ h=>.inl h
theorem Nw.trans {w w':World} {F F' F'':Nat→Prop} (h:Nw w F F') (h':Nw w' F' F'') (hs:w.heap.size≤w'.heap.size):Nw w F F'':=fun b hb=>by
 rcases h' b hb with h1|h1
 ·exact h b h1
 ·exact .inr (by omega)
theorem Nw.apart {w:World} {F F' G:Nat→Prop} (h:Nw w F F') (hG:∀b,G b→b<w.heap.size) (hd:∀b,G b→¬F b):∀b,G b→¬F' b:=fun b hg hf=>by
 rcases h b hf with h1|h1
 ·exact hd b hg h1
 ·have:=hG b hg;omega
theorem Kp.steps {w w1 w2:World} {F F':Nat→Prop} (k:Kp F w w1) (hn:Nw w F F') (k':Kp F' w1 w2):Kp F w w2:=
 k.then k' (fun b hb hf=>by
  rcases hn b hf with h|h
  ·exact h
  ·omega)
theorem BO {w w1:World} {base:Nat} {e:TypeId} {size n:Nat} {v:Value} {row:Option Nat} {xs:List Value} (h:w.ownsRow base e size v n xs) (hg:w.grownBy w1 row) (hne:∀b,v.ownBlock=some b→row≠some b):w1.ownsRow base e size v n xs:=by
 refine⟨h.1,?_⟩;rcases h.2 with⟨rfl,rfl⟩|⟨g,cap,cur,rfl,hb,hh,r⟩
 ·exact .inl ⟨rfl,rfl⟩
 ·exact .inr ⟨g,cap,cur,rfl,hb,(hg.block g (Array.getElem?_eq_some_iff.1 hh).1 (fun e=>hne g rfl e.symm)).trans hh,r⟩
theorem OA {α:Type} (en:α→List Value) (sz:Nat) (hl:∀a,(en a).length=sz) (hp:0<sz) (a:α) (n:Nat):madeCells (en a).toArray (n*sz)=((List.replicate n a).flatMap en).toArray:=by
 apply Array.ext
 ·rw[size_madeCells,List.size_toArray,dQ en sz hl,List.length_replicate]
 ·intro i h1 h2;rw[size_madeCells]at h1;have hr:i%sz<sz:=Nat.mod_lt _ hp;have hd:i/sz<n:=(Nat.div_lt_iff_lt_mul hp).2 h1;have hdm:i/sz*sz+i%sz=i:=by rw[Nat.mul_comm];exact Nat.div_add_mod i sz
  have h3:=flat_get en sz hl (List.replicate n a) (i/sz) (i%sz) hr;rw[hdm,List.getElem?_replicate,if_pos hd]at h3;have hi:i%sz<(en a).length:=by rw[hl];exact hr
  simp only[madeCells,Array.getElem_map,Array.getElem_range,List.size_toArray,hl];have h4:((List.replicate n a).flatMap en)[i]? =some ((en a)[i%sz]'hi):=by rw[h3];simp[hi]
  have h5:((List.replicate n a).flatMap en).toArray[i]=(en a)[i%sz]'hi:=by
   have:=(List.getElem?_eq_some_iff.1 h4).2;simpa using this
  rw[h5];simp[hi]
theorem pW {P:Program} {t e:TypeId} {z:Value} {sz bytes:Nat} (T:qY P t e z sz bytes) {α:Type} (en:α→List Value) (hl:∀a,(en a).length=sz) (a:α) (ha:z.cells=(en a).toArray) (n:Nat) (hb:bytes*n≤281474976710656) (hn:n≤9223372036854775807) (w:World):
 (Instr.makeSlice t (.int .i64 (n:Int)) (.int .i64 (n:Int))).run P w=.ok (.slice (some ⟨w.heap.size,0,none⟩) n n) (w.alloc (.cells ((List.replicate n a).flatMap en).toArray e)):=by
 obtain⟨i,hi,hzz⟩:=Option.map_eq_some_iff.1 T.info;simp only[Prod.mk.injEq]at hzz;obtain⟨hz,hs,hbb⟩:=hzz;have hb':(bytes:Int)*(n:Int)≤281474976710656:=by
  have h:((bytes*n:Nat):Int)≤281474976710656:=by omega
  rwa [Int.natCast_mul]at h
 have hr:=run_make (P:=P) w t e i z T.ht hi hz .i64 .i64 n n (by omega) (Int.le_refl _) (by rw[hbb];exact hb') (by omega);rw[hs,ha]at hr;simp only[Int.toNat_natCast]at hr;rw[hr,OA en sz hl T.pos a n]
end Go.Proofs.YtjiehhlghjnfhaaGreatDoor
namespace Go.Proofs.YtjiehhlghjnfhaaGreatDoor
open Go Go.RowKit Go.Shelf
structure It where
 rank:Nat
 x:Pk
def iE (i:It):List Value:=[.int .u64 i.rank,.int .u32 i.x.jU,.int .u32 i.x.id,.int .u64 i.x.len]
theorem jy (i:It):(iE i).length=4:=rfl
def sQ:It:=⟨0,KT⟩
theorem jQ (i:It):(Tryz.prog.info? 416).map (·.size)=some (iE i).length:=by rw[jy];kernel_rfl
theorem tIt:qY Tryz.prog 428 416 (.agg #[.int .u64 0,.int .u32 0,.int .u32 0,.int .u64 0]) 4 24:=⟨Tryz.underlying428,by kernel_rfl,rfl,by decide⟩
structure yI (w:World) (rb:Nat) (v:Value) (S:List It) (fr n room:Nat):Prop where
 top:ag w rb [v,.int .i64 fr,.int .i64 n,.int .i64 room] 430
 row:w.ownsRow 0 416 4 v S.length (S.flatMap iE)
def CQ (rb:Nat) (v:Value):Nat→Prop:=fun b=>b=rb∨v.ownBlock=some b
theorem yI.kp {T:Nat→Prop} {w w':World} {rb:Nat} {v:Value} {S:List It} {fr n room:Nat} (h:yI w rb v S fr n room) (k:Kp T w w') (hT:∀b,CQ rb v b→¬T b):yI w' rb v S fr n room:=
 ⟨h.top.kp k (hT _ (.inl rfl)),aK h.row k (fun b hb=>hT b (.inr hb))⟩
theorem yI.old {w w':World} {rb:Nat} {v:Value} {S:List It} {fr n room:Nat} (h:yI w rb v S fr n room) (k:Kp none' w w'):yI w' rb v S fr n room:=h.kp k (fun _ _ x=>x)
theorem OB {w:World} {rb:Nat} {v:Value} {S:List It} {fr n room:Nat} (h:yI w rb v S fr n room):Calls Tryz.prog 321 #[.pointer (some ⟨rb,0,none⟩)] w fun e w'=>e=.returned (.int .i64 n)∧w=w':=by
 have c:=h.top.cell 2 rfl;clear h
 go_enter Tryz.func321,Tryz.ntmps321
 go_wp2
 go_ret
 exact⟨rfl,rfl⟩
theorem Zg {w:World} {rb:Nat} {v:Value} {S:List It} {fr n room:Nat} (h:yI w rb v S fr n room) (h1:n≤room) (h2:room≤65536):Calls Tryz.prog 324 #[.pointer (some ⟨rb,0,none⟩)] w fun e w'=>e=.returned (.int .i64 (room-n:Nat))∧Kp none' w w':=by
 have c:=h.top.cell 2 rfl;have c3:=h.top.cell 3 rfl;obtain⟨q,hq⟩:∃q,room-n=q:=⟨_,rfl⟩
 have hqi:(room:Int)-n=q:=by omega
 rw[hq];clear h hq
 go_enter Tryz.func324,Tryz.ntmps324
 go_wp2_with fail
 go_region
 all_goals
  go_wp2_with fail
  go_ret
  exact⟨rfl,(Kp.refl none' w).drew⟩
theorem zN {w:World} {rb:Nat} {v:Value} {S:List It} {fr n room:Nat} (h:yI w rb v S fr n room) (hf:fr<S.length) (hS:S.length≤65536) (i:Nat) (hi:i≤S.length):Calls Tryz.prog 323 #[.pointer (some ⟨rb,0,none⟩),.int .i64 i] w fun e w'=>e=.returned (.int .i64 (lD S.length fr i))∧Kp none' w w':=by
 have c0:=h.top.cell 0 rfl;have c1:=h.top.cell 1 rfl;obtain⟨g,cap,rfl,_⟩:=dJ h.row (by omega);have hm:=VN hf hi;have HM:Hid (((fr:Int)+i).tmod (S.length:Int)=(lD S.length fr i:Nat)):=by
  show _=_;rw[←hm,Int.tmod_eq_emod_of_nonneg (by omega)];simp
 have hN:(0:Int)<S.length:=by omega
 have hlt:=uw hf hi;clear h hm;generalize lD S.length fr i=R at*;generalize S.length=N at*;have hm2:=HM.out
 go_enter Tryz.func323,Tryz.ntmps323
 go_wp2_with fail
 go_region
 all_goals
  go_wp2_with fail
  go_ret
  trace_state
  exact⟨rfl,(Kp.refl none' w).drew⟩
theorem KX {w:World} {g:Nat} {cs:List Value} {t:TypeId} (size n:Nat) (h:ag w g cs t) (hl:cs.length=n*size) (hn:n≤maxLen):w.ownsRow 0 t size (.slice (some ⟨g,0,none⟩) n n) n cs:=
 ⟨hl,.inr ⟨g,n,cs.toArray,rfl,Nat.zero_le _,h.is,Nat.le_refl _,hn,by simpa using hl,by rw[List.take_of_length_le (by simp[hl])]⟩⟩
theorem KY {w:World} {B g cap n:Nat} {m:List It} (h:w.ownsRow B 416 4 (.slice (some ⟨g,0,none⟩) n cap) n (m.flatMap iE)) (i:Nat) (x:It) (hx:m[i]? =some x):
 ∀W,Kp none' w W→(Instr.loadAt 416 (.pointer (some ⟨g,i*4,none⟩))).run Tryz.prog W=.ok (.agg (iE x).toArray) W:=fun W hK=>
 run_loadAt_mid W g (i*4) 416 (iE x) _ (fun j v hv=>hK.cell (eY h (i*4+j) (by
  have hj:j<4:=by have:=(List.getElem?_eq_some_iff.1 hv).1;rwa [jy]at this
  rw[flat_get iE 4 jy m i j hj,hx];exact hv)) (fun x=>x)) Tryz.underlying416 rfl (jQ _)
structure GwI (w wr:World) (rb:Nat) (v:Value) (S:List It) (fr n room nb:Nat) (Q S2:List It) (M i:Nat):Prop where
 old:yI wr rb v S fr n room
 new:wr.ownsRow 0 416 4 (.slice (some ⟨nb,0,none⟩) M M) M (S2.flatMap iE)
 len:S2.length=M
 get:∀j,j<i→S2[j]? =Q[j]?
 kp:Kp none' w wr
 nbn:w.heap.size≤nb
set_option maxRecDepth 100000 in
theorem Tv {w:World} {rb:Nat} {v:Value} {S:List It} {fr n room:Nat} (h:yI w rb v S fr n room) (hn:n<S.length):Calls Tryz.prog 325 #[.pointer (some ⟨rb,0,none⟩)] w fun e w'=>e=.returned (.tuple #[])∧Kp none' w w':=by
 have c0:=h.top.cell 0 rfl;have c2:=h.top.cell 2 rfl;obtain⟨ao,cap,rfl⟩:=dP h.row;have hn':(n:Int)<S.length:=by omega
 clear h
 go_enter Tryz.func325,Tryz.ntmps325
 go_wp2_with fail
 go_region
 all_goals
  go_wp2_with fail
  refine bodyPost_ret (results_none rfl _ _ _) rfl ?_;exact⟨rfl,(Kp.refl none' w).drew⟩
set_option maxRecDepth 100000 in
theorem Zh {w:World} {rb:Nat} {v:Value} {S:List It} {fr n room:Nat} {Q:List It} (h:yI w rb v S fr n room) (ok:RgOk S fr n room Q) (hn:n=S.length) (hr:n<room) (hr2:room≤4096):Calls Tryz.prog 325 #[.pointer (some ⟨rb,0,none⟩)] w fun e w'=>e=.returned (.tuple #[])∧∃nb S2 M,n<M∧M≤room∧S2.length=M∧(∀j,j<n→S2[j]? =Q[j]?)∧yI w' rb (.slice (some ⟨nb,0,none⟩) M M) S2 0 n room∧w.heap.size≤nb∧Kp (fun b=>b=rb) w w':=by
 have c0:=h.top.cell 0 rfl;have c2:=h.top.cell 2 rfl;have c3:=h.top.cell 3 rfl;obtain⟨ao,cap,rfl⟩:=dP h.row;have hn':¬(n:Int)<S.length:=by omega
 obtain⟨M,hM⟩:∃M,min (max (2*S.length) 4) room=M:=⟨_,rfl⟩
 have hMi:min (max (2*(S.length:Int)) 4) (room:Int)=(M:Int):=by omega
 have hM1:n<M:=by omega
 have hM2:M≤room:=by omega
 have hMp:0<M:=by omega
 have hS4:S.length≤4096:=by omega
 have I7:Hid (∀b,CQ rb (.slice ao S.length cap) b→b<w.heap.size):=ae (fun b hb=>by
  rcases hb with rfl|hb
  ·exact h.top.lt
  ·exact(aG h.row hb).2)
 have HM:=ae h;have oI:=ae ok;have HN:=ae hn;have HMI:=ae hMi;have hmk:=fun W=>pW tIt iE jy sQ rfl M (by omega) (by omega) W
 clear h ok hM hMi;generalize hSL:S.length=N at*;have Eg:=ae hSL;have HW2:Hid (IntKind.i64.wrap (2*(N:Int))=2*(N:Int)):=ae (by rw[IntKind.wrap_i64];omega);clear hSL
 go_enter Tryz.func325,Tryz.ntmps325
 go_wp2_with fail
 refine af [] [0,1,2,3,4,5,6,7,8] 9 (by kernel_rfl) (by kernel_rfl) (fun c a d u w h=>by cases d<;>exact h) ?_;simp only[pick,bn];show aA _ _ _ _ _ _
 repeat((first
  |refine ah (by exact rfl) (by as_aux_lemma=>intro W hK;have e0:=hK.cell c2 (fun x=>x);have e1:=hK.cell c0 (fun x=>x);go_simp;exact rfl) ?_
  |refine ai (by exact rfl) ?_);simp only[Act.put,aY])
 show ∀W,_→wpList _ _ _ _ _ _
 intro W2 hK2;have eP:=ae (HM.out.old hK2);have ak:=ae hK2;have d0:=hK2.cell c0 (fun x=>x);have d3:=hK2.cell c3 (fun x=>x);clear hK2 c0 c2 c3
 go_wp2_with fail
 refine af [] [0,1,2,3,4,5,6,7,8,9,10,11] 12 (by kernel_rfl) (by kernel_rfl) (fun c a d u w h=>by cases d<;>exact h) ?_;simp only[pick,bn];show aA _ _ _ _ _ _
 repeat((first
  |refine ah (by exact rfl) (by as_aux_lemma=>intro W hK;have e0:=hK.cell d0 (fun x=>x);have e1:=hK.cell d3 (fun x=>x);have e2:=HMI.out;have e3:=HW2.out;go_simp;exact rfl) ?_
  |refine ai (by exact rfl) ?_);simp only[Act.put,aY])
 show ∀W,_→wpList _ _ _ _ _ _
 intro W3 hK3;have fV:=ae (eP.out.old hK3);have aF:=ae (ak.out.trans hK3);clear hK3 d0 d3;have abh:=hmk W3;clear hmk;obtain⟨L0,hL0⟩:∃L0,(List.replicate M sQ).flatMap iE=L0:=⟨_,rfl⟩
 rw[hL0]at abh;have d2:=fV.out.top.cell 2 rfl;have hrl3:=fV.out.top.lt;have hal:=(Kp.refl none' W3).alloc (.cells L0.toArray 416);have HI:Hid (GwI w (W3.alloc (.cells L0.toArray 416)) rb (.slice ao N cap) S fr n room W3.heap.size Q (List.replicate M sQ) M 0):=by
  refine⟨fV.out.old hal,?_,List.length_replicate,fun j hj=>by omega,aF.out.trans hal,aF.out.size⟩;rw[hL0];exact KX 4 M (ag.new W3 L0 _) (by rw[←hL0,dQ iE 4 jy,List.length_replicate]) (by unfold maxLen;omega)
 clear hal hL0
 go_wp2_with fail
 generalize W3.alloc (.cells L0.toArray 416)=W4 at*;obtain⟨nb,hnb⟩:∃nb,W3.heap.size=nb:=⟨_,rfl⟩
 rw[hnb]at HI ⊢;clear abh d2 hrl3 hnb fV aF eP ak
 go_loopw [31] (fun i0 wr=>∃(i:Nat) (S2:List It),i0=.int .i64 i∧i≤n∧Hid (GwI w wr rb (.slice ao N cap) S fr n room nb Q S2 M i)) (fun i0 _=>n-(intOf i0).toNat)
 case atStart=>exact⟨0,_,rfl,Nat.zero_le _,HI.out⟩
 case round=>
  clear HI;obtain⟨i,S2,rfl,hi,hr⟩:=hrel;by_cases hlt:i<n
  ·have hii:(i:Int)<n:=by omega
   have hiM:(i:Int)<M:=by omega
   have hfr:fr<S.length:=oI.out.Ea (by rw[Eg.out];omega);have KZ:=uw (i:=i) hfr (by rw[Eg.out];omega);have BP:=ae (fun W (k:Kp none' wr W)=>zN (hr.out.old.old k) hfr (by rw[Eg.out];omega) i (by rw[Eg.out];omega));have hgt:=oI.out.get i hlt;obtain⟨x,hx⟩:∃x,Q[i]? =some x:=⟨_,List.getElem?_eq_getElem (by rw[oI.out.len];exact hlt)⟩
   rw[hx]at hgt;obtain⟨g0,cap0,e0,_⟩:=dJ hr.out.old.row (by rw[Eg.out];omega);injection e0 with e1 e2 e3
   subst e1 e3;have hrow:=hr.out.old.row;rw[Eg.out]at hrow;have xI:=ae (KY hrow _ x hgt);clear hrow;have c0:=hr.out.old.top.cell 0 rfl;rw[Eg.out]at KZ BP xI;generalize lD N fr i=q at*;have hqi:(q:Int)<N:=by omega
   have HX:=ae hx;clear hgt hfr hx e2
   go_wp2_with fail
   refine af [] [0,1,2,3,4,5,6,7,8,9,10] 11 (by kernel_rfl) (by kernel_rfl) (fun c a d u w h=>by cases d<;>exact h) ?_;simp only[pick,bn];show aA _ _ _ _ _ _
   repeat((first
        |refine ah (by exact rfl) (bW rfl rfl xI.out) ?_
        |refine ah (by exact rfl) (by as_aux_lemma=>intro W hK;have e0:=hK.cell c0 (fun x=>x);go_simp;exact rfl) ?_
        |refine ai (by exact rfl) ?_
        |refine au (by exact rfl) (by as_aux_lemma=>intro W;go_simp;exact⟨rfl,rfl⟩) (by intro W hK;with_reducible first|exact BP.out W hK) ?_);simp only[Act.put,aY])
   show ∀W,_→wpList _ _ _ _ _ _
   intro W5 hK5;have dB:=ae (hr.out.old.old hK5);have Og:=ae (aK hr.out.new hK5 (fun _ _ x=>x));have a_:=ae (hr.out.kp.trans hK5);clear hK5 c0
   go_wp2_with(first
        |(refine dh rfl 416 (.tmp 45) (.tmp 44) rfl iE 4 jy S2 Og.out i (by rw[hr.out.len];omega) x rfl rfl rfl (jQ x) rfl ?_
          intro W6 pV hk6;have xH:=ae pV;have b_:=ae hk6
          clear pV hk6))
   have VT:=hr.out.nbn;have HG:Hid (GwI w W6 rb (.slice (some ⟨g0,0,none⟩) N cap) S fr n room nb Q (S2.set i x) M (i+1)):=by
    refine⟨dB.out.kp b_.out (fun b hb e=> ?_),xH.out,by rw[List.length_set];exact hr.out.len,fun j hj=> ?_,a_.out.then b_.out (fun b hb e=>by omega),VT⟩
    ·have:=I7.out b hb;omega
    ·by_cases e:j=i
     ·subst e;rw[List.getElem?_set_self (by rw[hr.out.len];omega),HX.out]
     ·rw[List.getElem?_set_ne (fun e2=>e e2.symm)];exact hr.out.get j (by omega)
   clear dB Og a_ xH b_
   go_roundw
   case rel=>exact⟨i+1,_,by go_num,by omega,HG.out⟩
   case measure=>simp[intOf];omega
  ·have hie:i=n:=by omega
   subst hie;have c0:=hr.out.old.top.cell 0 rfl;have c1:=hr.out.old.top.cell 1 rfl;have cf:=fun j=>hr.out.old.top.fz j
   go_wp2_with fail
   go_end0
   have hks:Kp (fun b=>b=rb) wr ((wr.setCell ⟨rb,0,none⟩ (.slice (some ⟨nb,0,none⟩) M M)).setCell ⟨rb,1,none⟩ (.int .i64 0)):=((Kp.refl (fun b=>b=rb) wr).set (p:=⟨rb,0,none⟩) (.inl rfl) _).set (p:=⟨rb,1,none⟩) (.inl rfl) _;have hrb:=I7.out rb (.inl rfl);have VT:=hr.out.nbn;refine⟨rfl,nb,S2,M,hM1,hM2,hr.out.len,hr.out.get,⟨(hr.out.old.top.set 0 _).set 1 _,?_⟩,VT,(hr.out.kp.mono (fun _ _ x=>x.elim)).trans hks⟩;rw[hr.out.len];exact aK hr.out.new hks (fun b hb e=>by have h9:nb=b:=Option.some.inj hb;omega)
def Rg (w:World) (F:Nat→Prop) (rb room:Nat) (Q:List It):Prop:=∃v S fr n,F=CQ rb v∧yI w rb v S fr n room∧RgOk S fr n room Q∧room≤4096
theorem Rg.kp {T:Nat→Prop} {w w':World} {F:Nat→Prop} {rb room:Nat} {Q:List It} (h:Rg w F rb room Q) (k:Kp T w w') (hT:∀b,F b→¬T b):Rg w' F rb room Q:=by
 obtain⟨v,S,fr,n,rfl,hm,ok,h4⟩:=h;exact⟨v,S,fr,n,rfl,hm.kp k hT,ok,h4⟩
theorem Rg.old {w w':World} {F:Nat→Prop} {rb room:Nat} {Q:List It} (h:Rg w F rb room Q) (k:Kp none' w w'):Rg w' F rb room Q:=h.kp k (fun _ _ x=>x)
theorem Rg.lt {w:World} {F:Nat→Prop} {rb room:Nat} {Q:List It} (h:Rg w F rb room Q) {b:Nat} (hb:F b):b<w.heap.size:=by
 obtain⟨v,S,fr,n,rfl,hm,ok,h4⟩:=h;rcases hb with rfl|hb
 ·exact hm.top.lt
 ·exact(aG hm.row hb).2
set_option maxRecDepth 100000 in
theorem acp {w:World} {F:Nat→Prop} {rb room:Nat} {Q:List It} (h:Rg w F rb room Q) (hl:Q.length<room) (x:It):Calls Tryz.prog 320 #[.pointer (some ⟨rb,0,none⟩),.agg (iE x).toArray] w fun e w'=>e=.returned (.bool true)∧∃F',Rg w' F' rb room (Q++[x])∧Kp F w w'∧Nw w F F':=by
 obtain⟨v,S,fr,n,rfl,hm,ok,hroom⟩:=h;obtain⟨r,⟨fl,id,ln⟩⟩:=x;rw[ok.len]at hl;have HR:=ae (fun W (k:Kp none' w W)=>Zg (hm.old k) (by omega) (by omega));obtain⟨R,hR⟩:∃R,room-n=R:=⟨_,rfl⟩
 have hR0:((R:Int)==0)=false:=by rw[beq_eq_false_iff_ne];omega
 rw[hR]at HR;clear hR;have HM:=ae hm;have oI:=ae ok;clear hm;show Calls Tryz.prog _ #[.pointer (some ⟨rb,0,none⟩),.agg #[.int .u64 (r:Int),.int .u32 (fl:Int),.int .u32 (id:Int),.int .u64 (ln:Int)]] w _
 go_enter Tryz.func320,Tryz.ntmps320
 go_wp2_with fail
 refine(HR.out _ ((Kp.refl none' w).alloc _)).mono ?_;rintro e w1 ⟨rfl,hk0⟩;have HX0:=ae ((ag.new w [.int .u64 (r:Int),.int .u32 (fl:Int),.int .u32 (id:Int),.int .u64 (ln:Int)] 416).kp hk0 (fun x=>x));have hk1:=((Kp.refl none' w).alloc (.cells #[.int .u64 (r:Int),.int .u32 (fl:Int),.int .u32 (id:Int),.int .u64 (ln:Int)] 416)).trans hk0;have Ba:=ae (HM.out.old hk1);have aB:=ae hk1;clear hk0 hk1;have hrw:rb<w.heap.size:=HM.out.top.lt
 go_wp2_with fail
 by_cases hlt:n<S.length
 ·refine(Tv Ba.out hlt).mono ?_;rintro e W1 ⟨rfl,hk⟩;have bT:=ae (Ba.out.old hk);have gX:=ae (HX0.out.kp hk (fun x=>x));have ax:Hid (Kp (CQ rb v) w W1):=ae ((aB.out.trans hk).mono (fun _ _ x=>x.elim));have G8:Hid (Nw w (CQ rb v) (CQ rb v)):=ae (Nw.refl _ _);obtain⟨S1,hS1⟩:∃S1,S1=S:=⟨_,rfl⟩
  obtain⟨VU,hf1⟩:∃f,f=fr:=⟨_,rfl⟩
  subst hS1 hf1;have Eh:=oI;have hn1:=hlt;have K_:=Eh.out.Ea (by omega);have hS4:S1.length≤4096:=by have:=Eh.out.fits;omega
  clear hk;have BP:=ae (fun W (k:Kp none' W1 W)=>zN (bT.out.old k) K_ (by omega) n (by omega));have KZ:=uw (i:=n) K_ (by omega);have jl:=ae (Eh.out.put hn1 ⟨r,⟨fl,id,ln⟩⟩);have c0:=bT.out.top.cell 0 rfl;have c2:=bT.out.top.cell 2 rfl;have b0:=gX.out.cell 0 rfl;have b1:=gX.out.cell 1 rfl;have b2:=gX.out.cell 2 rfl;have b3:=gX.out.cell 3 rfl;obtain⟨g1,cap1,e1,_⟩:=dJ bT.out.row (by omega);subst e1;obtain⟨q,hq⟩:∃q,lD S1.length VU n=q:=⟨_,rfl⟩
  rw[hq]at KZ jl BP;clear hq;have hqi:(q:Int)<S1.length:=by omega
  go_wp2_with fail
  refine af [] [0,1,2,3,4,5,6,7,8,9,10] 11 (by kernel_rfl) (by kernel_rfl) (fun c a d u w h=>by cases d<;>exact h) ?_;simp only[pick,bn];show aA _ _ _ _ _ _
  repeat((first
   |refine ah (by exact rfl) (by as_aux_lemma=>intro W hK;have e0:=hK.cell c0 (fun x=>x);have e1:=hK.cell c2 (fun x=>x);have e2:=hK.cell b0 (fun x=>x);have e3:=hK.cell b1 (fun x=>x);have e4:=hK.cell b2 (fun x=>x);have e5:=hK.cell b3 (fun x=>x);go_simp;exact rfl) ?_
   |refine ai (by exact rfl) ?_
   |refine au (by exact rfl) (by as_aux_lemma=>intro W;go_simp;exact⟨rfl,rfl⟩) (by intro W hK;with_reducible first|exact BP.out W hK) ?_);simp only[Act.put,aY])
  show ∀W,_→wpList _ _ _ _ _ _
  intro W5 hK5;have dB:=ae (bT.out.old hK5);have a_:=ae (ax.out.trans (hK5.mono (fun _ _ x=>x.elim)));clear hK5 c0 c2 b0 b1 b2 b3
  go_wp2_with(first
   |(refine dh rfl 416 (.tmp 21) (.tmp 20) rfl iE 4 jy S1 dB.out.row q (by omega) ⟨r,⟨fl,id,ln⟩⟩ rfl rfl rfl (jQ _) rfl ?_
     intro W6 pV hk6;have xH:=ae pV;have bV:=ae (dB.out.top.kp hk6 (fun e=>az dB.out.row dB.out.top (by decide) (by rw[e];rfl)));have b_:=ae hk6;have d2:=bV.out.cell 2 rfl;have df:=bV.out.fz 2
     clear pV hk6))
  go_ret
  have hks:Kp (fun b=>b=rb) W6 (W6.setCell ⟨rb,2,none⟩ (.int .i64 ((n:Int)+1))):=(Kp.refl (fun b=>b=rb) W6).set (p:=⟨rb,2,none⟩) (.inl rfl) _;have hgr:g1≠rb:=fun e=>az dB.out.row dB.out.top (by decide) (by rw[e];rfl)
  refine⟨rfl,_,⟨.slice (some ⟨g1,0,none⟩) S1.length cap1,S1.set q ⟨r,⟨fl,id,ln⟩⟩,VU,n+1,rfl,⟨bV.out.set 2 _,?_⟩,jl.out,hroom⟩,?_,?_⟩
  ·rw[List.length_set];exact aK xH.out hks (fun b hb e=>by have h9:g1=b:=Option.some.inj hb;omega)
  ·exact(a_.out.steps G8.out ((b_.out.mono (fun b _ e=>.inr (by rw[e];rfl))).trans (hks.mono (fun b _ e=>.inl e))))
  ·exact G8.out
 ·have hnN:n=S.length:=by have:=oI.out.uY;omega
  refine(Zh Ba.out oI.out hnN hl hroom).mono ?_;rintro e W1 ⟨rfl,nb,S1,M,a1,a2,a3,a4,a5,a6,a7⟩;have hw0:w.heap.size≤w1.heap.size:=aB.out.size;have bT:=ae a5;have gX:=ae (HX0.out.kp a7 (fun e=>by omega));have ax:Hid (Kp (CQ rb v) w W1):=ae ((aB.out.mono (fun _ _ x=>x.elim)).trans (a7.mono (fun b _ e=>.inl e)))
  have G8:Hid (Nw w (CQ rb v) (CQ rb (.slice (some ⟨nb,0,none⟩) M M))):=ae (fun b hb=>by
   rcases hb with rfl|hb
   ·exact .inl (.inl rfl)
   ·have h9:nb=b:=Option.some.inj hb
    exact .inr (by omega))
  have Eh:=ae (oI.out.anew (S2:=S1) (by omega) (by omega) a4);obtain⟨VU,hf1⟩:∃f,f=0:=⟨_,rfl⟩
  obtain⟨v1,hv1⟩:∃v1,v1=Value.slice (some ⟨nb,0,none⟩) M M:=⟨_,rfl⟩
  rw[←hv1]at bT G8;rw[←hf1]at Eh bT;have hn1:n<S1.length:=by omega
  have K_:=Eh.out.Ea (by omega);have hS4:S1.length≤4096:=by omega
  clear a4 a5 a6 a7 hf1 hv1 hnN hlt a3 a1 a2;have BP:=ae (fun W (k:Kp none' W1 W)=>zN (bT.out.old k) K_ (by omega) n (by omega));have KZ:=uw (i:=n) K_ (by omega);have jl:=ae (Eh.out.put hn1 ⟨r,⟨fl,id,ln⟩⟩);have c0:=bT.out.top.cell 0 rfl;have c2:=bT.out.top.cell 2 rfl;have b0:=gX.out.cell 0 rfl;have b1:=gX.out.cell 1 rfl;have b2:=gX.out.cell 2 rfl;have b3:=gX.out.cell 3 rfl;obtain⟨g1,cap1,e1,_⟩:=dJ bT.out.row (by omega);subst e1;obtain⟨q,hq⟩:∃q,lD S1.length VU n=q:=⟨_,rfl⟩
  rw[hq]at KZ jl BP;clear hq;have hqi:(q:Int)<S1.length:=by omega
  go_wp2_with fail
  refine af [] [0,1,2,3,4,5,6,7,8,9,10] 11 (by kernel_rfl) (by kernel_rfl) (fun c a d u w h=>by cases d<;>exact h) ?_;simp only[pick,bn];show aA _ _ _ _ _ _
  repeat((first
   |refine ah (by exact rfl) (by as_aux_lemma=>intro W hK;have e0:=hK.cell c0 (fun x=>x);have e1:=hK.cell c2 (fun x=>x);have e2:=hK.cell b0 (fun x=>x);have e3:=hK.cell b1 (fun x=>x);have e4:=hK.cell b2 (fun x=>x);have e5:=hK.cell b3 (fun x=>x);go_simp;exact rfl) ?_
   |refine ai (by exact rfl) ?_
   |refine au (by exact rfl) (by as_aux_lemma=>intro W;go_simp;exact⟨rfl,rfl⟩) (by intro W hK;with_reducible first|exact BP.out W hK) ?_);simp only[Act.put,aY])
  show ∀W,_→wpList _ _ _ _ _ _
  intro W5 hK5;have dB:=ae (bT.out.old hK5);have a_:=ae (ax.out.trans (hK5.mono (fun _ _ x=>x.elim)));clear hK5 c0 c2 b0 b1 b2 b3
  go_wp2_with(first
   |(refine dh rfl 416 (.tmp 21) (.tmp 20) rfl iE 4 jy S1 dB.out.row q (by omega) ⟨r,⟨fl,id,ln⟩⟩ rfl rfl rfl (jQ _) rfl ?_
     intro W6 pV hk6;have xH:=ae pV;have bV:=ae (dB.out.top.kp hk6 (fun e=>az dB.out.row dB.out.top (by decide) (by rw[e];rfl)));have b_:=ae hk6;have d2:=bV.out.cell 2 rfl;have df:=bV.out.fz 2
     clear pV hk6))
  go_ret
  have hks:Kp (fun b=>b=rb) W6 (W6.setCell ⟨rb,2,none⟩ (.int .i64 ((n:Int)+1))):=(Kp.refl (fun b=>b=rb) W6).set (p:=⟨rb,2,none⟩) (.inl rfl) _;have hgr:g1≠rb:=fun e=>az dB.out.row dB.out.top (by decide) (by rw[e];rfl)
  refine⟨rfl,_,⟨.slice (some ⟨g1,0,none⟩) S1.length cap1,S1.set q ⟨r,⟨fl,id,ln⟩⟩,VU,n+1,rfl,⟨bV.out.set 2 _,?_⟩,jl.out,hroom⟩,?_,?_⟩
  ·rw[List.length_set];exact aK xH.out hks (fun b hb e=>by have h9:g1=b:=Option.some.inj hb;omega)
  ·exact(a_.out.steps G8.out ((b_.out.mono (fun b _ e=>.inr (by rw[e];rfl))).trans (hks.mono (fun b _ e=>.inl e))))
  ·exact G8.out
end Go.Proofs.YtjiehhlghjnfhaaGreatDoor
