/- slices.Compact of a rising row of numbers: each of them once. -/
import Derived.Test.YtjiehhlghjnfhaaGreatDoorMTopLineF24
import Derived.Test.YtjiehhlghjnfhaaGreatDoorShelfRu
import Derived.Test.YtjiehhlghjnfhaaGreatDoorMTopLineF5
import Derived.Test.YtjiehhlghjnfhaaGreatDoorMTopLineF22
import Derived.Test.YtjiehhlghjnfhaaGreatDoorMTopLineF23
import Derived.Test.YtjiehhlghjnfhaaGreatDoorMTopLineF6
import Derived.Test.YtjiehhlghjnfhaaGreatDoorMTopLineF0
set_option linter.unusedVariables false
set_option linter.unusedSimpArgs false
set_option maxHeartbeats 8000000
namespace Go.Proofs.YtjiehhlghjnfhaaGreatDoor
open Go.RowKit Go.Sort Go.Shelf Go.Lib
abbrev BA (x:Nat):Value:=.int .u16 x
theorem JG (d:Array Nat) (hup:∀i j,i≤j→j<d.size→d[i]! ≤d[j]!) (m:Nat) (hm:m≤d.size):(compactUpTo d m).Pairwise (·< ·)∧∀x,x∈compactUpTo d m↔∃j,j<m∧d[j]! =x:=by
 induction m with
 |zero=>exact⟨by simp[compactUpTo],fun x=>by simp[compactUpTo]⟩
 |succ m ih=>
  obtain⟨h1,h2⟩:=ih (by omega);rw[compactUpTo_succ];by_cases hk:keeps d m=true
  ·rw[if_pos hk];refine⟨?_,fun x=> ?_⟩
   ·rw[List.pairwise_append];refine⟨h1,by simp,fun a ha b hb=> ?_⟩;rw[List.mem_singleton]at hb;subst hb;obtain⟨j,hj,rfl⟩:=(h2 a).1 ha;have l1:=hup j (m-1) (by omega) (by omega);have l2:=hup (m-1) m (by omega) (by omega);unfold keeps at hk;rw[decide_eq_true_eq]at hk;rcases hk with hk|hk
    ·omega
    ·omega
   ·rw[List.mem_append,h2,List.mem_singleton];constructor
    ·rintro(⟨j,hj,e⟩|rfl)
     ·exact⟨j,by omega,e⟩
     ·exact⟨m,by omega,rfl⟩
    ·rintro⟨j,hj,e⟩;rcases Nat.lt_or_ge j m with h|h
     ·exact .inl ⟨j,h,e⟩
     ·have:j=m:=by omega
      subst this;exact .inr e.symm
  ·rw[if_neg hk,List.append_nil];refine⟨h1,fun x=> ?_⟩;rw[h2];constructor
   ·rintro⟨j,hj,e⟩;exact⟨j,by omega,e⟩
   ·rintro⟨j,hj,e⟩;rcases Nat.lt_or_ge j m with h|h
    ·exact⟨j,h,e⟩
    ·have:j=m:=by omega
     subst this;unfold keeps at hk;simp only[decide_eq_true_eq]at hk;have hk1:j≠0:=fun h=>hk (.inl h)
     have hk2:d[j]! =d[j-1]! :=Classical.byContradiction fun h=>hk (.inr h)
     exact⟨j-1,by omega,by rw[←hk2];exact e⟩
theorem JH (d:Array Nat) (m:Nat):(compactUpTo d m).length≤m:=by
 unfold compactUpTo;rw[List.length_map];exact Nat.le_trans (List.length_filter_le _ _) (by simp)
theorem eqU:EqlAt Tryz.prog 41 BA (fun x y=>decide (x=y)):=⟨fun x y w=>by
 rw[(EqlAt.int Tryz.prog 41 .u16).1 (x:Int) (y:Int) w];by_cases h:x=y
 ·subst h;simp
 ·have:(x:Int)≠y:=by omega
  simp[h,this],fun op a b x y w=>GuardAt.int Tryz.prog 41 .u16 op a b x y w⟩
theorem neU:NeqAt Tryz.prog 41 BA (fun x y=>decide (x=y)):=⟨fun x y w=>by
 rw[(NeqAt.int Tryz.prog 41 .u16).1 (x:Int) (y:Int) w];by_cases h:x=y
 ·subst h;simp
 ·have:(x:Int)≠y:=by omega
  simp[h,this],fun op a b x y w=>GuardAt.int Tryz.prog 41 .u16 op a b x y w⟩
theorem Nj (w:World) (base:Nat) (v:Value) (ys:List Nat) (own:w.ownsRow base 41 1 v ys.length (ys.map BA)) (hne:ys≠ []) (hup:ys.Pairwise (·≤ ·)):
 Calls Tryz.prog 159 #[v] w fun e w'=>∃(ao:Option Addr) (cap:Nat) (zs:List Nat),e=.returned (.slice ao zs.length cap)∧zs.Pairwise (·< ·)∧(∀x,x∈zs↔x∈ys)∧zs.length≤ys.length∧Sl w' (.slice ao zs.length cap) zs.length 1 (zs.flatMap fun x=>[BA x])∧Kp (fun b=>v.ownBlock=some b) w w':=by
 rcases own.2 with⟨rfl,hn⟩|⟨g,cap,cur,rfl,hg,hb,h1,h2,h3,h4⟩
 ·exact absurd (List.eq_nil_of_length_eq_zero hn) hne
 ·rw[Nat.mul_one]at h3 h4;have hH:Holds BA w g 0 ys.toArray:=aC.Ie hb h4;have hcap:ys.toArray.size≤cap:=by simpa using h1
  have hsz:ys.toArray.size≤9223372036854775807:=by unfold maxLen at h2;simp;omega
  have hup':∀i j,i≤j→j<ys.toArray.size→ys.toArray[i]! ≤ys.toArray[j]! :=fun i j hij hj=>by
   have hj':j<ys.length:=by simpa using hj
   have hi':i<ys.length:=by omega
   rw[getElem!_pos ys.toArray i (by simpa using hi'),getElem!_pos ys.toArray j hj];simp only[List.getElem_toArray];rcases Nat.lt_or_ge i j with h|h
   ·exact List.pairwise_iff_getElem.1 hup i j hi' hj' h
   ·have:i=j:=by omega
    subst this;exact Nat.le_refl _
  obtain⟨p1,p2⟩:=JG ys.toArray hup' ys.toArray.size (Nat.le_refl _);have hl:=JH ys.toArray ys.toArray.size;have hmem:∀x,x∈compactUpTo ys.toArray ys.toArray.size↔x∈ys:=fun x=>by
   rw[p2];constructor
   ·rintro⟨j,hj,rfl⟩;rw[getElem!_pos ys.toArray j hj];simp
   ·intro hx;obtain⟨j,hj,rfl⟩:=List.getElem_of_mem hx;refine⟨j,by simpa using hj,?_⟩;rw[getElem!_pos ys.toArray j (by simpa using hj)];simp
  have hC:=AnyE.slices_Compact Tryz.compactU BA (fun _=>rfl) eqU neU 0 (fun w=>by kernel_rfl) g 0 cap ys.toArray w hH hsz hcap;have e:ys.toArray.size=ys.length:=by simp
  have hlen:=p1;rw[e]at hC hl;refine Calls.mono hC ?_;rintro e' w' ⟨rfl,q,hw⟩;refine⟨_,cap,compactUpTo ys.toArray ys.length,rfl,by rw[←e];exact p1,by rw[←e];exact hmem,hl,?_,?_⟩
  ·have hz:∀l:List Nat,l.flatMap (fun x=>[BA x])=l.map BA:=fun l=>by induction l<;>simp_all
   refine⟨by rw[hz];simp,by unfold maxLen at h2;omega,_,cap,rfl,fun i u hu=>⟨g,0,rfl,?_⟩⟩;rw[hz]at hu;have hs:(compactUpTo ys.toArray ys.length++List.replicate (ys.length-(compactUpTo ys.toArray ys.length).length) 0).toArray.size=ys.toArray.size:=by simp;omega
   have hh:=(holds_putRow BA (Sort.ahead w q) g 0 ys.toArray _ (holds_ahead BA w q g 0 ys.toArray hH) hs);have hi:i<(compactUpTo ys.toArray ys.length).length:=by have:=(List.getElem?_eq_some_iff.1 hu).1;simpa using this
   have:=(hh i (by rw[hs];simp;omega)).1;rw[hw,this];have e2:u=BA (compactUpTo ys.toArray ys.length)[i]:=by
    rw[List.getElem?_map,List.getElem?_eq_getElem hi]at hu;exact(Option.some.inj hu).symm
   rw[e2,getElem!_pos _ i (by rw[hs];simp;omega)];simp only[List.getElem_toArray];rw[List.getElem_append_left hi]
  ·rw[hw];exact(aC.yX w g 0 q _).mono (fun b _ h=>by subst h;rfl)
end Go.Proofs.YtjiehhlghjnfhaaGreatDoor
namespace Go.Proofs.YtjiehhlghjnfhaaGreatDoor
open Go.RowKit
def vZ (p:Nat×Nat):List Value:=[.int .u16 p.1,.int .u64 p.2]
theorem qw (p:Nat×Nat):(vZ p).length=2:=rfl
theorem abK:qY Tryz.prog 281 41 (.int .u16 0) 1 2:=⟨Tryz.underlying281,by kernel_rfl,rfl,by decide⟩
theorem aeJ:qY Tryz.prog 222 321 (.agg #[.int .u16 0,.int .u64 0]) 2 16:=⟨Tryz.underlying222,by kernel_rfl,rfl,by decide⟩
theorem y_ (w:World) (o:Obj) {n:Nat} (h:n=w.heap.size):(w.alloc o).heap[n]? =some o:=by subst h;exact jI w o
theorem JI {l:List dI} {j:Nat} (h:j<l.length):dG (l.take (j+1))=dG (l.take j)++l[j].lo::(if l[j].hi<65535 then[l[j].hi+1]else[]):=by
 unfold dG;rw[List.take_succ_eq_append_getElem h,List.flatMap_append];simp only[List.flatMap_cons,List.flatMap_nil,List.append_nil,List.cons_append]
theorem Cf (l:List dI):(dG l).length≤1+2*l.length:=by
 induction l with
 |nil=>simp[dG]
 |cons r l ih=>
  have e:(dG (r::l)).length=(dG l).length+(1+(if r.hi<65535 then[r.hi+1]else[]).length):=by
   simp[dG];omega
  rw[e,List.length_cons];split<;>simp<;>omega
structure R1 (w wr:World) (l:List dI) (v:Value) (j:Nat):Prop where
 own:wr.ownsRow w.heap.size 41 1 v (dG (l.take j)).length ((dG (l.take j)).map BA)
 kp:Kp none' w wr
structure R2 (w wr:World) (l:List dI) (zs:List Nat) (v:Value) (i:Nat):Prop where
 own:wr.ownsRow w.heap.size 321 2 v i ((runsOf l (zs.take i)).flatMap vZ)
 kp:Kp none' w wr
theorem X6 (w:World) (x:Nat):(w.alloc (.cells #[.int .u16 x] 41)).ownsRow w.heap.size 41 1 (.slice (some ⟨w.heap.size,0,none⟩) 1 1) 1 [.int .u16 x]:=
 ⟨rfl,.inr ⟨w.heap.size,1,#[.int .u16 x],rfl,Nat.le_refl _,jI _ _,Nat.le_refl _,by unfold maxLen;omega,rfl,rfl⟩⟩
set_option maxRecDepth 100000 in
theorem ac6 (l:List dI) (hok:∀r∈l,r.Ok) (hn:l.length≤64) (v:Value) (w:World) (h:Sl w v l.length 7 (l.flatMap ja)):
 Calls Tryz.prog 96 #[v] w fun e w'=>∃rv zs,e=.returned rv∧wO l zs∧zs.length≤129∧w'.ownsRow w.heap.size 321 2 rv zs.length ((runsOf l zs).flatMap vZ)∧Kp none' w w':=by
 obtain⟨ao,cap,rfl⟩:∃ao cap,v=.slice ao l.length cap:=by obtain⟨ao,cap,rfl,_⟩:=h.is;exact⟨_,_,rfl⟩
 have HS:=ae h;have HO:=ae hok;have HI0:Hid (R1 w (w.alloc (.cells #[.int .u16 0] 41)) l (.slice (some ⟨w.heap.size,0,none⟩) 1 1) 0):=⟨X6 w 0,(Kp.refl _ _).alloc _⟩;clear h hok
 go_enter Tryz.func96,Tryz.ntmps96
 go_wp2_with fail
 go_loopw [3,15] (fun s3 i wr=>∃(j:Nat) (v3:Value),v3=s3∧i=.int .i64 j∧j≤l.length∧Hid (R1 w wr l v3 j)) (fun _ i _=>l.length-(intOf i).toNat)
 case atStart=>exact⟨0,_,rfl,rfl,Nat.zero_le _,HI0.out⟩
 case round=>
  clear HI0;obtain⟨j,v3,rfl,rfl,hj,HI⟩:=hrel;obtain⟨wo,hwo⟩:∃wo:World,wo=wr:=⟨_,rfl⟩
  subst hwo;by_cases hlt:j<l.length
  ·obtain⟨g,off,cap',e1,hc⟩:=(HS.out.old HI.out.kp).at kR (by decide) j hlt;injection e1 with e1 _ e3
   cases e1
   subst e3;have hji:(j:Int)<l.length:=by omega
   have hsn:=JI hlt;obtain⟨r,hrr⟩:∃r,l[j]=r:=⟨_,rfl⟩
   have hok:=HO.out r (by rw[←hrr];exact List.getElem_mem hlt);rw[hrr]at hc hsn;have c0:wo.cell? ⟨g,off+j*7,none⟩=some (.int .u32 r.s.1):=hc 0 _ rfl;have c1:=hc 1 _ rfl;have c2:=hc 2 _ rfl;have c3:=hc 3 _ rfl;have c4:=hc 4 _ rfl;have c5:=hc 5 _ rfl;have c6:=hc 6 _ rfl;have hl:=Cf (l.take j);rw[List.length_take]at hl;have hl2:(dG (l.take j)).length≤129:=by omega
   have hws:=HI.out.kp.size;have HB:=ae (ag.new wo (ja r) 153);have r4:=HB.out.cell 4 rfl;clear hc hrr hl
   go_wp2_with(at_builtin;refine pg abK (.tmp 19) (.tmp 22) rfl rfl w.heap.size ((HI.out.own.alloc _).alloc _) [.int .u16 r.lo] rfl rfl rfl (y_ _ _ (by simp)) rfl (by omega) (by omega) (by simp;omega) ?_)
   intro g2 cap2 w4 hown hgrow;have hk4:Kp none' w w4:=((HI.out.kp.alloc _).alloc _).grown hgrow (fun k hk=>.inr (aG HI.out.own hk).1);have hb4:=(HB.out.alloc (.cells #[.int .u16 r.lo] 41)).grown hgrow (fun e=>by have:=(aG HI.out.own e.symm).2;omega);have r5:=hb4.cell 5 rfl;have HOW:=ae hown;have aH:=ae hk4;have VE:=ae hsn;have afr:=hk4.size;clear hown hgrow hk4 hb4 hsn r4 c0 c1 c2 c3 c4 c5 c6 HB;by_cases hh:r.hi<65535
   ·obtain⟨q,hq⟩:∃q,r.hi+1=q:=⟨_,rfl⟩
    have hw:IntKind.u16.wrap ((r.hi:Int)+1)=(q:Int):=by rw[IntKind.wrap_u16];omega
    have Gi:Hid ((if r.hi<65535 then[r.hi+1]else[])=[q]):=by show _=_;rw[if_pos hh,hq]
    have hhi:(r.hi:Int)<65535:=by omega
    go_wp2_with(at_builtin;refine pg abK (.tmp 27) (.tmp 31) rfl rfl w.heap.size (HOW.out.alloc _) [.int .u16 q] rfl rfl rfl (y_ _ _ (by simp)) rfl (by omega) (by omega) (by simp;omega) ?_)
    intro g3 cap3 w5 hown5 Rh;have hk5:Kp none' w w5:=(aH.out.alloc _).grown Rh (fun k hk=>.inr (aG HOW.out hk).1);have HF:Hid (R1 w w5 l (.slice (some ⟨g3,0,none⟩) ((dG (l.take j)).length+1+1) cap3) (j+1)):=by
     refine⟨?_,hk5⟩;have e:dG (l.take (j+1))=dG (l.take j)++[r.lo,q]:=by rw[VE.out,Gi.out]
     rw[e,List.length_append,List.map_append];simpa using hown5
    clear hown5 Rh hk5 HOW
    go_wp2
    go_roundw
    case rel=>exact⟨j+1,_,rfl,by go_num,by omega,HF.out⟩
    case measure=>simp[intOf];omega
   ·have Gi:Hid ((if r.hi<65535 then[r.hi+1]else[])=[]):=by show _=_;rw[if_neg hh]
    have hhi:¬(r.hi:Int)<65535:=by omega
    have HF:Hid (R1 w w4 l (.slice (some ⟨g2,0,none⟩) ((dG (l.take j)).length+1) cap2) (j+1)):=by
     refine⟨?_,aH.out⟩;have e:dG (l.take (j+1))=dG (l.take j)++[r.lo]:=by rw[VE.out,Gi.out]
     rw[e,List.length_append,List.map_append];simpa using HOW.out
    clear HOW
    go_wp2
    go_roundw
    case rel=>exact⟨j+1,_,rfl,by go_num,by omega,HF.out⟩
    case measure=>simp[intOf];omega
  ·have hjn:j=l.length:=by omega
   subst hjn;have hl:=Cf l;have hown:=HI.out.own;rw[List.take_length]at hown;have hso:=aC.aay aC.UG (by omega) wo w.heap.size 41 v3 (dG l) hown (by omega);have HSO:=ae hso;have HIo:=ae HI.out.own;have HKo:=ae HI.out.kp;clear hown hso
   go_wp2_with(go_at_call 158;refine HSO.out.mono ?_;rintro e w5 ⟨rfl,ys,hrs,hown5,hk5⟩
               have hne:ys≠ []:=fun e=>by have:=hrs.perm.length_eq;rw[e]at this;simp[dG]at this
               have HCM:=ae (Nj w5 w.heap.size v3 ys hown5 hne hrs.up);have EO:=ae hrs;have a_:=ae (HKo.out.then hk5 (fun b hb hbv=>by have:=(aG HIo.out hbv).1;omega));have abL:=ae hown5
               clear hrs hown5 hk5 hne)
   refine HCM.out.mono ?_;rintro e w6 ⟨ao2,cap2,zs,rfl,hup,hmem,hzl,hsl,hk6⟩;have hst:wO l zs:=⟨hup,fun x=>(hmem x).trans EO.out.perm.mem_iff⟩;have hyl:=EO.out.perm.length_eq;have ac7:zs.length≤129:=by omega
   have HST:=ae hst;have Eg:=ae hsl;have b_:=ae (a_.out.then hk6 (fun b hb hbv=>by have:=(aG abL.out hbv).1;omega));clear hup hmem hzl hsl hk6 hst hyl HCM HSO abL hl EO
   go_wp2_with fail
   go_loopw [6,39] (fun s6 i wr=>∃(i0:Nat) (v6:Value),v6=s6∧i=.int .i64 i0∧i0≤zs.length∧Hid (R2 w6 wr l zs v6 i0)) (fun _ i _=>zs.length-(intOf i).toNat)
   case atStart=>exact⟨0,_,rfl,rfl,Nat.zero_le _,⟨by simp[runsOf],.inl ⟨rfl,rfl⟩⟩,Kp.refl _ _⟩
   case round=>
    obtain⟨i0,v6,rfl,rfl,hi0,HI2⟩:=hrel;obtain⟨wi,hwi⟩:∃wi:World,wi=wr:=⟨_,rfl⟩
    subst hwi;by_cases hlt2:i0<zs.length
    ·obtain⟨gz,aeK,afs,e1,hc⟩:=(Eg.out.old HI2.out.kp).at (enc:=fun x=>[BA x]) (fun _=>rfl) (by decide) i0 hlt2;injection e1 with e1 _ e3
     subst e1 e3;have hii:(i0:Int)<zs.length:=by omega
     obtain⟨p,hp⟩:∃p,zs[i0]=p:=⟨_,rfl⟩
     rw[hp]at hc;have c0:wi.cell? ⟨gz,aeK+i0*1,none⟩=some (.int .u16 p):=hc 0 _ rfl;rw[Nat.mul_one]at c0;obtain⟨f,hf⟩:∃f:Nat→Bool,f=fun k=>Kr (l.getD k default) p:=⟨_,rfl⟩
     have HF:=ae hf;have HP:=ae hp;clear hc hf hp
     go_wp2_with fail
     go_loopw [9,45] (fun m i wr=>∃k:Nat,i=.int .i64 k∧k≤l.length∧m=.int .u64 (bitsOf f k:Nat)∧Hid (Kp none' wi wr)) (fun _ i _=>l.length-(intOf i).toNat)
     case atStart=>exact⟨0,rfl,Nat.zero_le _,rfl,Kp.refl _ _⟩
     case round=>
      obtain⟨k,rfl,hk,rfl,HK⟩:=hrel;by_cases hkl:k<l.length
      ·obtain⟨g,off,cap3,e1,hc⟩:=(HS.out.old ((b_.out.trans HI2.out.kp).trans HK.out)).at kR (by decide) k hkl;injection e1 with e1 _ e3
       subst e1 e3;have hki:(k:Int)<l.length:=by omega
       have MS:k<64:=by omega
       obtain⟨o,ho⟩:∃o,l[k]=o:=⟨_,rfl⟩
       rw[ho]at hc;have d0:wr.cell? ⟨g,off+k*7,none⟩=some (.int .u32 o.s.1):=hc 0 _ rfl;have d1:=hc 1 _ rfl;have d2:=hc 2 _ rfl;have d3:=hc 3 _ rfl;have d4:=hc 4 _ rfl;have d5:=hc 5 _ rfl;have d6:=hc 6 _ rfl;have hfk:f k=Kr o p:=by rw[HF.out];show Kr (l.getD k default) p=_;rw[getD_at _ hkl,ho]
       have Wp:=ae (HK.out.alloc (.cells #[.int .u32 o.s.1,.int .i64 o.s.2,.int .u32 o.d.1,.int .i64 o.d.2,.int .u16 o.lo,.int .u16 o.hi,.int .u32 o.fl] 153));clear hc ho;cases hfv:f k with
       |true=>
        have hor:=yz MS hfv;rw[hfk]at hfv;unfold Kr at hfv;rw[Bool.and_eq_true,decide_eq_true_eq,decide_eq_true_eq]at hfv;obtain⟨h1,h2⟩:=hfv;obtain⟨m,hm⟩:∃m,bitsOf f k=m:=⟨_,rfl⟩
        obtain⟨m',hm'⟩:∃m,bitsOf f (k+1)=m:=⟨_,rfl⟩
        rw[hm,hm']at hor;have C9:=ae hm';simp only[hm];clear hm hm' hfk
        go_wp2_with fail
        go_roundw
        case rel=>exact⟨k+1,by go_num,by omega,by rw[C9.out],Wp.out⟩
        case measure=>simp[intOf];omega
       |false=>
        have hsk:=yA hfv;have qF:=ae hsk;rw[hfk]at hfv;unfold Kr at hfv;obtain⟨m,hm⟩:∃m,bitsOf f k=m:=⟨_,rfl⟩
        have C9:=ae hm;simp only[hm];clear hm hsk hfk;by_cases h1:o.lo≤p
        ·have h2:¬p≤o.hi:=by
          intro h2;rw[decide_eq_true h1,decide_eq_true h2]at hfv;cases hfv
         clear hfv
         go_wp2_with fail
         go_roundw
         case rel=>exact⟨k+1,by go_num,by omega,by rw[qF.out,C9.out],Wp.out⟩
         case measure=>simp[intOf];omega
        ·clear hfv
         go_wp2_with fail
         go_roundw
         case rel=>exact⟨k+1,by go_num,by omega,by rw[qF.out,C9.out],Wp.out⟩
         case measure=>simp[intOf];omega
      ·have hkn:k=l.length:=by omega
       subst hkn;have hset:bitsOf f l.length=vK l p:=by rw[HF.out];rfl
       obtain⟨m,hm⟩:∃m,bitsOf f l.length=m:=⟨_,rfl⟩
       rw[hm]at hset;have jm:=ae hset;simp only[hm];have hws2:=(HI2.out.kp.trans HK.out).size;have HOW:=ae (aK (S:=none') HI2.out.own HK.out (fun _ _ h=>h));clear hm hset
       go_wp2_with(at_builtin;refine pg aeJ (.tmp 65) (.tmp 69) rfl rfl w6.heap.size (HOW.out.alloc _) [.int .u16 p,.int .u64 m] rfl rfl rfl (y_ _ _ (by simp)) rfl (by omega) (by omega) (by simp;omega) ?_)
       intro g3 cap4 w8 iq dO;have hk8:Kp none' w6 w8:=((HI2.out.kp.trans HK.out).alloc _).grown dO (fun k hk=>.inr (aG HOW.out hk).1);have OE:Hid (R2 w6 w8 l zs (.slice (some ⟨g3,0,none⟩) (i0+1) cap4) (i0+1)):=by
        refine⟨?_,hk8⟩;have e:(runsOf l (zs.take (i0+1))).flatMap vZ=(runsOf l (zs.take i0)).flatMap vZ++[.int .u16 p,.int .u64 m]:=by
         rw[List.take_succ_eq_append_getElem hlt2,HP.out];unfold runsOf;rw[List.map_append,List.flatMap_append,jm.out];rfl
        rw[e];exact iq
       clear iq dO hk8 HOW
       go_wp2
       go_roundw
       case rel=>exact⟨i0+1,_,rfl,by go_num,by omega,OE.out⟩
       case measure=>simp[intOf];omega
    ·have hin:i0=zs.length:=by omega
     subst hin;have hown:=HI2.out.own;rw[List.take_length]at hown;have HOW:=ae hown;clear hown
     go_wp2_with fail
     go_ret
     exact⟨_,zs,rfl,HST.out,ac7,own_base HOW.out b_.out.size,b_.out.trans HI2.out.kp⟩
theorem ac8:qY Tryz.prog 224 42 (.int .u32 0) 1 4:=⟨Tryz.underlying224,by kernel_rfl,rfl,by decide⟩
abbrev rtT:TypeId:=226
def Ci (r:dI):Value:=.int .u32 r.fl
structure Nk (w:World) (tb:Nat) (l:List dI):Prop where
 is:∃(base base' sb db sn dn:Nat) (S D:Tr) (zs:List Nat) (pv fv:Value),ag w tb [.pointer (some ⟨sb,0,none⟩),.pointer (some ⟨db,0,none⟩),pv,fv] rtT∧iO w base sb S sn∧iO w base' db D dn∧
  ng (l.map (fun r=>dm (fG r))) S∧ng (l.map (fun r=>dm (fH r))) D∧wO l zs∧zs.length≤129∧Sl w pv zs.length 2 ((runsOf l zs).flatMap vZ)∧Sl w fv l.length 1 (l.flatMap fun r=>[Ci r])
theorem Nk.old {w w':World} {tb:Nat} {l:List dI} (h:Nk w tb l) (k:Kp none' w w'):Nk w' tb l:=by
 obtain⟨base,base',sb,db,sn,dn,S,D,zs,pv,fv,h1,h2,h3,h4,h5,h6,h9,h7,h8⟩:=h.is;exact⟨base,base',sb,db,sn,dn,S,D,zs,pv,fv,h1.kp k (fun x=>x),h2.old k,h3.old k,h4,h5,h6,h9,h7.old k,h8.old k⟩
theorem iO.kp {F:Nat→Prop} {w w':World} {base tb n:Nat} {T:Tr} (h:iO w base tb T n) (k:Kp F w w') (h1:¬F tb) (h2:∀b∈T.aU,¬F b):iO w' base tb T n:=
 ⟨h.blk.kp k h1,h.mem.kp k h2,h.wf,h.nd,h.out,h.low,h.zJ,Nat.le_trans h.GX k.size,h.root⟩
structure PT (w:World) (lo hi tb:Nat) (l:List dI):Prop where
 is:∃(base base' sb db sn dn:Nat) (S D:Tr) (zs:List Nat) (pv fv:Value),ag w tb [.pointer (some ⟨sb,0,none⟩),.pointer (some ⟨db,0,none⟩),pv,fv] rtT∧iO w base sb S sn∧iO w base' db D dn∧
  ng (l.map (fun r=>dm (fG r))) S∧ng (l.map (fun r=>dm (fH r))) D∧wO l zs∧zs.length≤129∧Sl w pv zs.length 2 ((runsOf l zs).flatMap vZ)∧Sl w fv l.length 1 (l.flatMap fun r=>[Ci r])∧
  lo≤base∧lo≤base'∧lo≤tb∧tb<hi∧sb<hi∧db<hi∧(∀b∈S.aU,b<hi)∧(∀b∈D.aU,b<hi)∧(∀b,pv.ownBlock=some b→lo≤b∧b<hi)∧(∀b,fv.ownBlock=some b→lo≤b∧b<hi)
theorem PT.rt {w:World} {lo hi tb:Nat} {l:List dI} (h:PT w lo hi tb l):Nk w tb l:=by
 obtain⟨base,base',sb,db,sn,dn,S,D,zs,pv,fv,h1,h2,h3,h4,h5,h6,h7,h8,h9,_⟩:=h.is;exact⟨base,base',sb,db,sn,dn,S,D,zs,pv,fv,h1,h2,h3,h4,h5,h6,h7,h8,h9⟩
theorem PT.kp {F:Nat→Prop} {w w':World} {lo hi tb:Nat} {l:List dI} (h:PT w lo hi tb l) (k:Kp F w w') (hF:∀b,lo≤b→b<hi→¬F b):PT w' lo hi tb l:=by
 obtain⟨base,base',sb,db,sn,dn,S,D,zs,pv,fv,h1,h2,h3,h4,h5,h6,h7,h8,h9,a1,a2,a3,a4,a5,a6,a7,a8,a9,a10⟩:=h.is
 exact⟨base,base',sb,db,sn,dn,S,D,zs,pv,fv,h1.kp k (hF _ a3 a4),h2.kp k (hF _ (Nat.le_trans a1 h2.zJ) a5) (fun b hb=>hF b (Nat.le_trans a1 (h2.low b hb)) (a7 b hb)),h3.kp k (hF _ (Nat.le_trans a2 h3.zJ) a6) (fun b hb=>hF b (Nat.le_trans a2 (h3.low b hb)) (a8 b hb)),h4,h5,h6,h7,
  h8.kp k (fun b _ e=>hF b (a9 b e).1 (a9 b e).2),h9.kp k (fun b _ e=>hF b (a10 b e).1 (a10 b e).2),a1,a2,a3,a4,a5,a6,a7,a8,a9,a10⟩
structure N3 (W3 wr:World) (tb:Nat) (a b pv:Value) (l:List dI) (fv:Value) (j:Nat):Prop where
 blk:ag wr tb [a,b,pv,fv] rtT
 own:wr.ownsRow (W3.heap.size+1) 42 1 fv j ((l.take j).map Ci)
 kp:Kp none' W3 wr
set_option maxRecDepth 100000 in
theorem ac9 (l:List dI) (hok:∀r∈l,r.Ok) (hc:oC l=0) (v:Value) (w:World) (h:Sl w v l.length 7 (l.flatMap ja)):
 Calls Tryz.prog 48 #[v] w fun e w'=>∃tb,e=.returned (.tuple #[.pointer (some ⟨tb,0,none⟩),.int .i64 0])∧PT w' w.heap.size w'.heap.size tb l∧Kp none' w w':=by
 have HC:=ae (QA l hok v w h);rw[hc]at HC;have hz:=wM.1 hc;have hn:=hz.1;obtain⟨ao,cap,rfl⟩:∃ao cap,v=.slice ao l.length cap:=by obtain⟨ao,cap,rfl,_⟩:=h.is;exact⟨_,_,rfl⟩
 have HS:=ae h;have HP1:=ae (fun W k=>Jz l hok (fun r hr=>(bad_false.1 (hz.2 r hr)).1) hn (.slice ao l.length cap) W (h.old (w':=W) k));have HP2:=ae (fun W k=>JD l hok (fun r hr=>(bad_false.1 (hz.2 r hr)).2.1) hn (.slice ao l.length cap) W (h.old (w':=W) k));have Xr:=ae (fun W k=>ac6 l hok hn (.slice ao l.length cap) W (h.old (w':=W) k));clear h hc hz hok
 go_enter Tryz.func48,Tryz.ntmps48
 go_wp2_with(go_at_call 53;refine HC.out.mono ?_;rintro e w1 ⟨rfl,hk1⟩;have ax:=ae hk1;clear hk1)
 refine(HP1.out _ ax.out).mono ?_;rintro e w2 ⟨sb,S,sn,rfl,hS,hSt,hk2⟩;have HS2:=ae hS;have HST:=ae hSt;have ak:=ae (ax.out.trans hk2);clear hS hSt hk2
 go_wp2_with fail
 refine(HP2.out _ ak.out).mono ?_;rintro e w3 ⟨db,D,dn,rfl,hD,hDt,hk3⟩;have yO:=ae (HS2.out.old hk3);have HD3:=ae hD;have HDT:=ae hDt;have aF:=ae (ak.out.trans hk3);clear hD hDt hk3
 go_wp2_with fail
 refine(Xr.out _ aF.out).mono ?_;rintro e w4 ⟨rv,zs,rfl,hst,hzl,hown,hk4⟩;have Bl:=ae (yO.out.old hk4);have HD4:=ae (HD3.out.old hk4);have HPV:=ae (zh hown);have gy:=ae (fun b e=>aG (b:=b) hown e);have aeL:=ae hst;have aH:=ae (aF.out.trans hk4);obtain⟨po,qV,rfl⟩:=dP hown;clear hst hown hk4;have HI0:Hid (N3 w4 (w4.alloc (.cells #[.pointer (some ⟨sb,0,none⟩),.pointer (some ⟨db,0,none⟩),.slice po zs.length qV,.slice none 0 0] 226)) w4.heap.size (.pointer (some ⟨sb,0,none⟩)) (.pointer (some ⟨db,0,none⟩)) (.slice po zs.length qV) l (.slice none 0 0) 0):=
  ⟨ag.new w4 [.pointer (some ⟨sb,0,none⟩),.pointer (some ⟨db,0,none⟩),.slice po zs.length qV,.slice none 0 0] _,⟨by simp,.inl ⟨rfl,rfl⟩⟩,(Kp.refl _ _).alloc _⟩
 go_wp2_with fail
 obtain⟨tb,htb⟩:∃g,w4.heap.size=g:=⟨_,rfl⟩
 have UH:=ae htb;have HI0:=ae HI0.out;rw[htb]at HI0 ⊢;clear htb
 go_loopw [23] (fun i wr=>∃(j:Nat) (fv:Value),i=.int .i64 j∧j≤l.length∧Hid (N3 w4 wr tb (.pointer (some ⟨sb,0,none⟩)) (.pointer (some ⟨db,0,none⟩)) (.slice po zs.length qV) l fv j)) (fun i _=>l.length-(intOf i).toNat)
 case atStart=>exact⟨0,_,rfl,Nat.zero_le _,HI0.out⟩
 case round=>
  clear HI0;obtain⟨j,fv,rfl,hj,HI⟩:=hrel;by_cases hlt:j<l.length
  ·obtain⟨g,off,cap',e1,hc⟩:=(HS.out.old (aH.out.trans HI.out.kp)).at kR (by decide) j hlt;injection e1 with e1 _ e3
   subst e1 e3;have hji:(j:Int)<l.length:=by omega
   obtain⟨r,hrr⟩:∃r,l[j]=r:=⟨_,rfl⟩
   rw[hrr]at hc;have c0:wr.cell? ⟨g,off+j*7,none⟩=some (.int .u32 r.s.1):=hc 0 _ rfl;have c1:=hc 1 _ rfl;have c2:=hc 2 _ rfl;have c3:=hc 3 _ rfl;have c4:=hc 4 _ rfl;have c5:=hc 5 _ rfl;have c6:=hc 6 _ rfl;have HRR:=ae hrr;clear hc hrr
   go_wp2_with fail
   obtain⟨fo,abM,rfl⟩:=dP HI.out.own;have hk5:Kp none' wr (wr.alloc (.cells #[.int .u32 r.s.1,.int .i64 r.s.2,.int .u32 r.d.1,.int .i64 r.d.2,.int .u16 r.lo,.int .u16 r.hi,.int .u32 r.fl] 153)):=(Kp.refl none' wr).alloc _;have hb5:ag (wr.alloc (.cells #[.int .u32 r.s.1,.int .i64 r.s.2,.int .u32 r.d.1,.int .i64 r.d.2,.int .u16 r.lo,.int .u16 r.hi,.int .u32 r.fl] 153)) wr.heap.size (ja r) 153:=ag.new wr (ja r) _;obtain⟨W5,hW5⟩:∃W,wr.alloc (.cells #[.int .u32 r.s.1,.int .i64 r.s.2,.int .u32 r.d.1,.int .i64 r.d.2,.int .u16 r.lo,.int .u16 r.hi,.int .u32 r.fl] 153)=W:=⟨_,rfl⟩
   obtain⟨gr,hgr⟩:∃g,wr.heap.size=g:=⟨_,rfl⟩
   rw[hW5]at hk5 hb5 ⊢;rw[hgr]at hb5 ⊢;have oN:=ae (HI.out.blk.kp hk5 (fun x=>x));have uA:=ae (aK (S:=none') HI.out.own hk5 (fun _ _ h=>h));have a_:=ae (HI.out.kp.trans hk5);have t3:=oN.out.cell 3 rfl;have y3:=oN.out.fz 3;have r6:=hb5.cell 6 rfl;have hsz:=oN.out.lt;have d_:=ae hb5;have htb:=UH.out;have abN:some tb≠(Value.slice fo j abM).ownBlock:=fun e=>by have:=(aG uA.out e.symm).1;omega
   have yQ:=ae abN;rw[htb]at uA;clear hW5 hk5 hb5 hgr htb c0 c1 c2 c3 c4 c5 c6 abN
   go_region_law ((refine Dq ac8 (.tmp 31) (.tmp 34) rfl rfl (tb+1) (v:=.slice fo j abM) ((uA.out.alloc _).drew) [.int .u32 r.fl] rfl rfl rfl (fr:=(0,0)) (x_ _ _ _ (by simp)) rfl (by omega) (by omega) (by simp;omega) ?_);intro g6 cap6 w6 hown6 hgrow6;have hblk6:=((oN.out.alloc (.cells #[.int .u32 r.fl] 42)).drew).grown hgrow6 yQ.out;have t3:=hblk6.cell 3 rfl;have y3:=hblk6.fz 3)
   all_goals
        have HF:Hid (N3 w4 (w6.setCell ⟨tb,3,none⟩ (.slice (some ⟨g6,0,none⟩) (j+1) cap6)) tb (.pointer (some ⟨sb,0,none⟩)) (.pointer (some ⟨db,0,none⟩)) (.slice po zs.length qV) l (.slice (some ⟨g6,0,none⟩) (j+1) cap6) (j+1)):=by
         have e:(l.take (j+1)).map Ci=(l.take j).map Ci++[.int .u32 r.fl]:=by
          rw[List.take_succ_eq_append_getElem hlt,HRR.out,List.map_append];rfl
         refine⟨hblk6.set 3 _,?_,?_⟩
         ·rw[UH.out,e];exact dX hown6 (fun b hb e2=>by have h1:=(aG hown6 hb).1;have e3:b=tb:=e2;omega) _
         ·refine(((a_.out.alloc _).drew).grown hgrow6 (fun k hk=>.inr (by have:=(aG uA.out hk).1;have:=UH.out;omega))).set (.inr (by show w4.heap.size≤tb;have:=UH.out;omega)) _
        clear hown6 hgrow6 hblk6 t3 y3 r6 oN uA
        go_wp2_with fail
        go_roundw
        case rel=>exact⟨j+1,_,by go_num,by omega,HF.out⟩
        case measure=>simp[intOf];omega
  ·have hjn:j=l.length:=by omega
   subst hjn;have hown:=HI.out.own;rw[List.take_length]at hown;have hfv:=zh hown;have hz:∀l:List dI,l.map Ci=l.flatMap (fun r=>[Ci r]):=fun l=>by induction l<;>simp_all
   rw[hz]at hfv;have HFV:=ae hfv;have FY:=ae (fun b e=>aG (b:=b) hown e);clear hown hfv hz
   go_wp2_with fail
   go_ret2
   have e1:=ax.out.size;have e2:=ak.out.size;have e3:=aF.out.size;have e4:=aH.out.size;have e5:=HI.out.kp.size;have e6:=UH.out;have hS:=Bl.out.old HI.out.kp;have hD:=HD4.out.old HI.out.kp;have hb:=HI.out.blk
   exact⟨tb,rfl,⟨w1.heap.size,w2.heap.size,sb,db,sn,dn,S,D,zs,_,fv,hb,hS,hD,HST.out,HDT.out,aeL.out,hzl,HPV.out.old HI.out.kp,HFV.out,
        e1,e2,by omega,hb.lt,hS.blk.lt,hD.blk.lt,hS.mem.lt,hD.mem.lt,fun b e=>by have:=gy.out b e;omega,fun b e=>by have:=FY.out b e;omega⟩,aH.out.trans HI.out.kp⟩
def kF.n (h:kF):DV:=⟨h.s,h.d,h.p⟩
structure UI (w:World) (tb b0 b1:Nat) (a b fv pv:Value) (l:List dI) (zs:List Nat) (h:kF):Prop where
 box:ag w b0 [.pointer (some ⟨tb,0,none⟩)] 122
 hd:ag w b1 (fO h) 44
 blk:ag w tb [a,b,pv,fv] rtT
 BB:Sl w pv zs.length 2 ((runsOf l zs).flatMap vZ)
theorem UI.old {w w':World} {tb b0 b1:Nat} {a b fv pv:Value} {l:List dI} {zs:List Nat} {h:kF} (H:UI w tb b0 b1 a b fv pv l zs h) (k:Kp none' w w'):UI w' tb b0 b1 a b fv pv l zs h:=
 ⟨H.box.kp k (fun x=>x),H.hd.kp k (fun x=>x),H.blk.kp k (fun x=>x),H.BB.old k⟩
theorem v_ {l:List dI} {zs:List Nat} {i:Nat} (h:i<zs.length):∃h':i<(runsOf l zs).length,(runsOf l zs)[i]=(zs.getD i 0,vK l (zs.getD i 0)):=by
 refine⟨by unfold runsOf;simpa using h,?_⟩;unfold runsOf;rw[List.getElem_map,getD_at _ h]
set_option maxRecDepth 100000 in
theorem aaB (w:World) (tb b0 b1:Nat) (a b fv pv:Value) (l:List dI) (zs:List Nat) (h:kF) (H:UI w tb b0 b1 a b fv pv l zs h) (i:Nat) (hi:i<zs.length):
 Calls Tryz.prog 203 #[.int .i64 i,.pointer (some ⟨b0,0,none⟩),.pointer (some ⟨b1,0,none⟩)] w fun e w'=>e=.returned (.bool (decide (h.p<zs.getD i 0)))∧Kp none' w w':=by
 have q0:=H.box.cell 0 rfl;have q1:=H.hd.cell 6 rfl;have q2:=H.blk.cell 2 rfl;obtain⟨hi',he⟩:=v_ (l:=l) hi;obtain⟨g,off,cap',rfl,hc⟩:=H.BB.at qw (by decide) i hi';rw[he]at hc;obtain⟨z,hz⟩:∃z,zs.getD i 0=z:=⟨_,rfl⟩
 rw[hz]at hc ⊢;have c0:w.cell? ⟨g,off+i*2,none⟩=some (.int .u16 z):=hc 0 _ rfl;have hii:(i:Int)<zs.length:=by omega
 clear H hc he hz hi'
 go_enter Tryz.func203,Tryz.ntmps203
 go_wp2_with fail
 go_region
 go_wp2_with fail
 go_ret
 exact⟨by simp,(Kp.refl _ _).drew⟩
set_option maxRecDepth 100000 in
theorem AB (w:World) (tb b0 b1:Nat) (a b fv pv:Value) (l:List dI) (zs:List Nat) (h:kF) (H:UI w tb b0 b1 a b fv pv l zs h) (hup:zs.Pairwise (·< ·)) (hn:zs.length≤1000000):
 Calls Tryz.prog 202 #[.int .i64 zs.length,.func (.func 203) #[] #[.pointer (some ⟨b0,0,none⟩),.pointer (some ⟨b1,0,none⟩)]] w fun e w'=>e=.returned (.int .i64 (upTo zs h.p:Nat))∧Kp none' w w':=by
 have hle:=DW zs h.p;have hpre:=AZ hup h.p;obtain⟨c,hc⟩:∃c,upTo zs h.p=c:=⟨_,rfl⟩
 rw[hc]at hle hpre ⊢;have HH:=ae H;have HP:=ae hpre;clear hc H hup hpre
 go_enter Tryz.func202,Tryz.ntmps202
 go_wp2_with fail
 go_loopw [5,6] (fun vi vj wr=>∃i j:Nat,vi=.int .i64 i∧vj=.int .i64 j∧i≤c∧c≤j∧j≤zs.length∧Hid (Kp none' w wr)) (fun vi vj _=>(intOf vj).toNat-(intOf vi).toNat)
 case atStart=>exact⟨0,zs.length,rfl,rfl,Nat.zero_le _,hle,Nat.le_refl _,Kp.refl _ _⟩
 case round=>
  obtain⟨i,j,rfl,rfl,hi,hj,hjn,HK⟩:=hrel;by_cases hij:i<j
  ·obtain⟨m,hm⟩:∃m,(i+j)/2=m:=⟨_,rfl⟩
   have hml:m<zs.length:=by omega
   have hmi:i≤m∧m<j:=by omega
   have hmz:((i:Int)+(j:Int))/2=(m:Int):=by omega
   have HC:=ae (fun W k=>aaB W tb b0 b1 a b fv pv l zs h (HH.out.old (HK.out.trans (k:Kp none' wr W))) m hml);have hij2:(i:Int)<j:=by omega
   have hpm:=HP.out m hml;by_cases hmc:m<c
   ·have hd:decide (h.p<zs.getD m 0)=false:=by rw[decide_eq_false_iff_not];have:=hpm.2 hmc;omega
    rw[hd]at HC;clear hd hpm hm
    go_wp2_with(go_at_call 203;refine(HC.out _ (by first|exact Kp.refl _ _|exact(Kp.refl _ _).drew)).mono ?_;rintro e w2 ⟨rfl,hk2⟩;have ak:=ae (HK.out.trans hk2);clear hk2)
    go_roundw
    case rel=>exact⟨m+1,j,by go_num,rfl,by omega,hj,hjn,ak.out⟩
    case measure=>simp[intOf];omega
   ·have hd:decide (h.p<zs.getD m 0)=true:=by
     rw[decide_eq_true_eq];rcases Nat.lt_or_ge h.p (zs.getD m 0)with h1|h1
     ·exact h1
     ·exact absurd (hpm.1 h1) hmc
    rw[hd]at HC;clear hd hpm hm
    go_wp2_with(go_at_call 203;refine(HC.out _ (by first|exact Kp.refl _ _|exact(Kp.refl _ _).drew)).mono ?_;rintro e w2 ⟨rfl,hk2⟩;have ak:=ae (HK.out.trans hk2);clear hk2)
    go_roundw
    case rel=>exact⟨i,m,rfl,by go_num,by omega,by omega,by omega,ak.out⟩
    case measure=>simp[intOf];omega
  ·have hic:i=c:=by omega
   subst hic
   go_wp2_with fail
   go_ret
   exact⟨rfl,HK.out⟩
theorem xu (o:Option (Px×Nat)):uX o=Qw o:=by cases o<;>rfl
set_option maxRecDepth 100000 in
theorem ac_ (w:World) (tb:Nat) (l:List dI) (hok:∀r∈l,r.Ok) (hc:oC l=0) (H:Nk w tb l) (h:kF) (hh:h.Ok):
 Calls Tryz.prog 163 #[.pointer (some ⟨tb,0,none⟩),.agg #[.int .u8 h.ds,.int .u16 h.id,.int .u8 h.eX,.int .u32 h.s,.int .u32 h.d,.int .u16 h.sp,.int .u16 h.p]] w fun e w'=>e=.returned (.int .u64 (bitsOf (iZ l h.n) l.length:Nat))∧Kp none' w w':=by
 obtain⟨base,base',sb,db,sn,dn,S,D,zs,pv,fv,h1,h2,h3,h4,h5,h6,hz9,h7,h8⟩:=H.is;obtain⟨po,qV,rfl⟩:∃po qV,pv=.slice po zs.length qV:=by obtain⟨po,qV,rfl,_⟩:=h7.is;exact⟨_,_,rfl⟩
 have hz:=wM.1 hc;have hb64:∀(f:Nat→Bool) (k:Nat),k≤64→bitsOf f k<18446744073709551616:=fun f k hk=>Nat.lt_of_lt_of_le (uj f k) (show 2^k≤2^64 from Nat.pow_le_pow_right (by decide) hk)
 have hx1:uX (S.best h.s none)<18446744073709551616:=by rw[xu,qP h4];exact hb64 _ _ (by rw[List.length_map];exact hz.1)
 have hx2:uX (D.best h.d none)<18446744073709551616:=by rw[xu,qP h5];exact hb64 _ _ (by rw[List.length_map];exact hz.1)
 have hval:=Vj hok hz.2 h4 h5 h6 h.n hh.p;have hpos:=(Qx h6 hok hh.p).1;have hup:=h6.up;have hx3:vK l (zs.getD (upTo zs h.p-1) 0)<18446744073709551616:=hb64 _ _ hz.1;obtain⟨c,hcn⟩:∃c,upTo zs h.p=c+1:=⟨upTo zs h.p-1,by omega⟩
 have hcl:c<zs.length:=by have:=DW zs h.p;omega
 have hval':uX (S.best h.s none)&&&uX (D.best h.d none)&&&vK l (zs.getD c 0)=bitsOf (iZ l h.n) l.length:=by
  rw[xu,xu];have e:upTo zs h.n.p-1=c:=by show upTo zs h.p-1=c;omega
  rw[e]at hval;exact hval
 rw[hcn,Nat.add_sub_cancel]at hx3;have a12:=bits_and_u64_nat _ _ hx1 hx2;have a3:=bits_and_u64_nat (uX (S.best h.s none)&&&uX (D.best h.d none)) _ (Nat.lt_of_le_of_lt Nat.and_le_left hx1) hx3;rw[hval']at a3;obtain⟨x3,X7⟩:∃x,vK l (zs.getD c 0)=x:=⟨_,rfl⟩
 rw[X7]at a3;obtain⟨R,hR⟩:∃R,bitsOf (iZ l h.n) l.length=R:=⟨_,rfl⟩
 rw[hR]at a3 ⊢;obtain⟨x1,X8⟩:∃x,uX (S.best h.s none)=x:=⟨_,rfl⟩
 obtain⟨x2,X9⟩:∃x,uX (D.best h.d none)=x:=⟨_,rfl⟩
 rw[X8,X9]at a12 a3;obtain⟨x12,abO⟩:∃x,x1&&&x2=x:=⟨_,rfl⟩
 rw[abO]at a12 a3;have gX:=ae X8;have pK:=ae X9;have Tn:=ae X7;have CJ:=ae hcn;clear hval hval' hx1 hx2 hx3 hR X8 X9 X7 hcn abO hb64;have hzl:zs.length≤1000000:=by omega
 have k0:Kp none' w ((w.alloc (.cells #[.pointer (some ⟨tb,0,none⟩)] 122)).alloc (.cells #[.int .u8 h.ds,.int .u16 h.id,.int .u8 h.eX,.int .u32 h.s,.int .u32 h.d,.int .u16 h.sp,.int .u16 h.p] 44)):=((Kp.refl none' w).alloc _).alloc _;have hI0:UI ((w.alloc (.cells #[.pointer (some ⟨tb,0,none⟩)] 122)).alloc (.cells #[.int .u8 h.ds,.int .u16 h.id,.int .u8 h.eX,.int .u32 h.s,.int .u32 h.d,.int .u16 h.sp,.int .u16 h.p] 44)) tb w.heap.size (w.heap.size+1) (.pointer (some ⟨sb,0,none⟩)) (.pointer (some ⟨db,0,none⟩)) fv (.slice po zs.length qV) l zs h:=by
  refine⟨(ag.new w [.pointer (some ⟨tb,0,none⟩)] _).alloc _,?_,h1.kp k0 (fun x=>x),h7.old k0⟩;have:=ag.new (w.alloc (.cells #[.pointer (some ⟨tb,0,none⟩)] 122)) (fO h) 44;rw[World.size_alloc]at this;exact this
 have HI0:=ae hI0;have HSt:=ae (h2.old k0);have HDt:=ae (h3.old k0);have aB:=ae k0;have oJ:=ae hup;have b0:=hI0.box.cell 0 rfl;have h3':=hI0.hd.cell 3 rfl;have t0:=hI0.blk.cell 0 rfl;clear hI0 h1 h2 h3 h4 h5 h6 h7 h8 hpos hup hz hc hok k0 H
 go_enter Tryz.func163,Tryz.ntmps163
 go_wp2_with fail
 obtain⟨W0,hW0⟩:∃W,(w.alloc (.cells #[.pointer (some ⟨tb,0,none⟩)] 122)).alloc (.cells #[.int .u8 h.ds,.int .u16 h.id,.int .u8 h.eX,.int .u32 h.s,.int .u32 h.d,.int .u16 h.sp,.int .u16 h.p] 44)=W:=⟨_,rfl⟩
 rw[hW0]at b0 h3' t0 HI0 HSt HDt aB ⊢;clear hW0;have FX:=ae (fun W (k:Kp none' W0 W)=>Ob W sb S sn (HSt.out.old k).blk (HSt.out.old k).mem HSt.out.wf h.s hh.s);simp only[gX.out]at FX;have N1:=World.new_ne W0 ⟨w.heap.size,0,none⟩ b0;have N2:=World.new_ne W0 ⟨w.heap.size+1,3,none⟩ h3';have N3:=World.new_ne W0 ⟨tb,0,none⟩ t0
 go_region_held3 (fun w'=>w'.cell? ⟨w.heap.size,0,none⟩=some (.pointer (some ⟨tb,0,none⟩))∧w'.cell? ⟨w.heap.size+1,3,none⟩=some (.int .u32 h.s)∧w'.cell? ⟨tb,0,none⟩=some (.pointer (some ⟨sb,0,none⟩))) (first|exact⟨mr e0 e3,mr e1 e4,mr e2 e5⟩|go_keep)
  ((go_at_call 201;refine(FX.out _ (by first|exact(Kp.refl none' W0).drew|exact((Kp.refl none' W0).drew.alloc _)|exact((Kp.refl none' W0).alloc _).drew)).mono ?_;rintro e w3 ⟨rfl,hk3⟩
    have hk4:Kp none' W0 w3:=by first|exact(Kp.refl none' W0).drew.trans hk3|exact((Kp.refl none' W0).drew.alloc _).trans hk3|exact((Kp.refl none' W0).alloc _).drew.trans hk3
    have e0:=hk4.cell b0 (fun x=>x);have e1:=hk4.cell h3' (fun x=>x);have e2:=hk4.cell t0 (fun x=>x);have e3:(⟨w.heap.size,0,none⟩:Addr).block≠W0.heap.size:=N1.symm;have e4:(⟨w.heap.size+1,3,none⟩:Addr).block≠W0.heap.size:=N2.symm;have e5:(⟨tb,0,none⟩:Addr).block≠W0.heap.size:=N3.symm
    first
        |(have hb3:=(ag.new W0.drew [.int .u32 0,.int .i64 0] 151).kp hk3 (fun x=>x)
          have z0:w3.cell? ⟨W0.heap.size,0,none⟩=some (.int .u32 0):=hb3.cell 0 rfl;have z1:w3.cell? ⟨W0.heap.size,1,none⟩=some (.int .i64 0):=hb3.cell 1 rfl;have y0:w3.frozen? ⟨W0.heap.size,0,none⟩=false:=hb3.fz 0;have y1:w3.frozen? ⟨W0.heap.size,1,none⟩=false:=hb3.fz 1
          clear hb3)
        |skip
    have aF:=ae hk3;have aH:=ae hk4;clear hk3 hk4))
 ·have hK1:Kp none' W0 (w3.alloc (.cells #[.int .u32 (dR (S.best h.s none)).1,.int .i64 (dR (S.best h.s none)).2] 151)):=aH.out.alloc _;obtain⟨W1,hW1⟩:∃W,w3.alloc (.cells #[.int .u32 (dR (S.best h.s none)).1,.int .i64 (dR (S.best h.s none)).2] 151)=W:=⟨_,rfl⟩
  rw[hW1]at hK1 ⊢;clear hW1 b0 h3' t0 N1 N2 N3;have HI1:=ae (HI0.out.old hK1);have HD1:=ae (HDt.out.old hK1);have ax:=ae (aB.out.trans hK1);have HF2:=ae (fun W (k:Kp none' W1 W)=>Ob W db D dn (HD1.out.old k).blk (HD1.out.old k).mem HD1.out.wf h.d hh.d);simp only[pK.out]at HF2;have b0:=HI1.out.box.cell 0 rfl;have h4:=HI1.out.hd.cell 4 rfl;have t1:=HI1.out.blk.cell 1 rfl;have N1:=World.new_ne W1 ⟨w.heap.size,0,none⟩ b0;have N2:=World.new_ne W1 ⟨w.heap.size+1,4,none⟩ h4;have N3:=World.new_ne W1 ⟨tb,1,none⟩ t1;clear hK1
  go_wp2_with fail
  go_region_held3 (fun w'=>w'.cell? ⟨w.heap.size,0,none⟩=some (.pointer (some ⟨tb,0,none⟩))∧w'.cell? ⟨w.heap.size+1,4,none⟩=some (.int .u32 h.d)∧w'.cell? ⟨tb,1,none⟩=some (.pointer (some ⟨db,0,none⟩))) (first|exact⟨mr e0 e3,mr e1 e4,mr e2 e5⟩|go_keep)
   ((go_at_call 201;refine(HF2.out _ (by first|exact(Kp.refl none' W1).drew|exact((Kp.refl none' W1).drew.alloc _)|exact((Kp.refl none' W1).alloc _).drew)).mono ?_;rintro e w3 ⟨rfl,hk3⟩
     have hk4:Kp none' W1 w3:=by first|exact(Kp.refl none' W1).drew.trans hk3|exact((Kp.refl none' W1).drew.alloc _).trans hk3|exact((Kp.refl none' W1).alloc _).drew.trans hk3
     have e0:=hk4.cell b0 (fun x=>x);have e1:=hk4.cell h4 (fun x=>x);have e2:=hk4.cell t1 (fun x=>x);have e3:(⟨w.heap.size,0,none⟩:Addr).block≠W1.heap.size:=N1.symm;have e4:(⟨w.heap.size+1,4,none⟩:Addr).block≠W1.heap.size:=N2.symm;have e5:(⟨tb,1,none⟩:Addr).block≠W1.heap.size:=N3.symm;first
      |(have hb3:=(ag.new W1.drew [.int .u32 0,.int .i64 0] 151).kp hk3 (fun x=>x)
        have z0:w3.cell? ⟨W1.heap.size,0,none⟩=some (.int .u32 0):=hb3.cell 0 rfl;have z1:w3.cell? ⟨W1.heap.size,1,none⟩=some (.int .i64 0):=hb3.cell 1 rfl;have y0:w3.frozen? ⟨W1.heap.size,0,none⟩=false:=hb3.fz 0;have y1:w3.frozen? ⟨W1.heap.size,1,none⟩=false:=hb3.fz 1
        clear hb3)
      |skip
     have aF:=ae hk3;have aH:=ae hk4;clear hk3 hk4))
  ·have hK2:Kp none' W1 (w3.alloc (.cells #[.int .u32 (dR (D.best h.d none)).1,.int .i64 (dR (D.best h.d none)).2] 151)):=aH.out.alloc _;obtain⟨W2,hW2⟩:∃W,w3.alloc (.cells #[.int .u32 (dR (D.best h.d none)).1,.int .i64 (dR (D.best h.d none)).2] 151)=W:=⟨_,rfl⟩
   rw[hW2]at hK2 ⊢;clear hW2;have HI2:=ae (HI1.out.old hK2);have ak:=ae (ax.out.trans hK2);have b0:=HI2.out.box.cell 0 rfl;have t2:=HI2.out.blk.cell 2 rfl;have tN:=ae (AB W2 tb w.heap.size (w.heap.size+1) (.pointer (some ⟨sb,0,none⟩)) (.pointer (some ⟨db,0,none⟩)) fv (.slice po zs.length qV) l zs h HI2.out oJ.out hzl);rw[CJ.out]at tN;clear hK2 h4 t1
   go_wp2_with fail
   refine tN.out.mono ?_;rintro e w5 ⟨rfl,hk5⟩;have pJ:=ae (HI2.out.old hk5);have a_:=ae (ak.out.trans hk5);have b0:=pJ.out.box.cell 0 rfl;have t2:=pJ.out.blk.cell 2 rfl;obtain⟨hi',he⟩:=v_ (l:=l) hcl;obtain⟨g,off,cap',e1,hc⟩:=pJ.out.BB.at qw (by decide) c hi';injection e1 with e1 _ e3
   subst e1 e3;rw[he,Tn.out]at hc;have p1:w5.cell? ⟨g,off+c*2+1,none⟩=some (.int .u64 x3):=hc 1 _ rfl;have hw:IntKind.i64.wrap (c:Int)=(c:Int):=by rw[IntKind.wrap_i64];omega
   have hci:(c:Int)<zs.length:=by omega
   clear hk5 hc he hi' tN
   go_wp2_with fail
   go_ret
   exact⟨rfl,a_.out⟩
  ·have hK2:Kp none' W1 ((w3.setCell ⟨W1.heap.size,0,none⟩ (.int .u32 (dR (D.best h.d none)).1)).setCell ⟨W1.heap.size,1,none⟩ (.int .i64 (dR (D.best h.d none)).2)):=(aH.out.set (p:=⟨W1.heap.size,0,none⟩) (.inr (Nat.le_refl _)) _).set (p:=⟨W1.heap.size,1,none⟩) (.inr (Nat.le_refl _)) _;obtain⟨W2,hW2⟩:∃W,(w3.setCell ⟨W1.heap.size,0,none⟩ (.int .u32 (dR (D.best h.d none)).1)).setCell ⟨W1.heap.size,1,none⟩ (.int .i64 (dR (D.best h.d none)).2)=W:=⟨_,rfl⟩
   rw[hW2]at hK2 ⊢;clear hW2;have HI2:=ae (HI1.out.old hK2);have ak:=ae (ax.out.trans hK2);have b0:=HI2.out.box.cell 0 rfl;have t2:=HI2.out.blk.cell 2 rfl;have tN:=ae (AB W2 tb w.heap.size (w.heap.size+1) (.pointer (some ⟨sb,0,none⟩)) (.pointer (some ⟨db,0,none⟩)) fv (.slice po zs.length qV) l zs h HI2.out oJ.out hzl);rw[CJ.out]at tN;clear hK2 h4 t1
   go_wp2_with fail
   refine tN.out.mono ?_;rintro e w5 ⟨rfl,hk5⟩;have pJ:=ae (HI2.out.old hk5);have a_:=ae (ak.out.trans hk5);have b0:=pJ.out.box.cell 0 rfl;have t2:=pJ.out.blk.cell 2 rfl;obtain⟨hi',he⟩:=v_ (l:=l) hcl;obtain⟨g,off,cap',e1,hc⟩:=pJ.out.BB.at qw (by decide) c hi';injection e1 with e1 _ e3
   subst e1 e3;rw[he,Tn.out]at hc;have p1:w5.cell? ⟨g,off+c*2+1,none⟩=some (.int .u64 x3):=hc 1 _ rfl;have hw:IntKind.i64.wrap (c:Int)=(c:Int):=by rw[IntKind.wrap_i64];omega
   have hci:(c:Int)<zs.length:=by omega
   clear hk5 hc he hi' tN
   go_wp2_with fail
   go_ret
   exact⟨rfl,a_.out⟩
 ·have hK1:Kp none' W0 ((w3.setCell ⟨W0.heap.size,0,none⟩ (.int .u32 (dR (S.best h.s none)).1)).setCell ⟨W0.heap.size,1,none⟩ (.int .i64 (dR (S.best h.s none)).2)):=(aH.out.set (p:=⟨W0.heap.size,0,none⟩) (.inr (Nat.le_refl _)) _).set (p:=⟨W0.heap.size,1,none⟩) (.inr (Nat.le_refl _)) _;obtain⟨W1,hW1⟩:∃W,(w3.setCell ⟨W0.heap.size,0,none⟩ (.int .u32 (dR (S.best h.s none)).1)).setCell ⟨W0.heap.size,1,none⟩ (.int .i64 (dR (S.best h.s none)).2)=W:=⟨_,rfl⟩
  rw[hW1]at hK1 ⊢;clear hW1 b0 h3' t0 N1 N2 N3;have HI1:=ae (HI0.out.old hK1);have HD1:=ae (HDt.out.old hK1);have ax:=ae (aB.out.trans hK1);have HF2:=ae (fun W (k:Kp none' W1 W)=>Ob W db D dn (HD1.out.old k).blk (HD1.out.old k).mem HD1.out.wf h.d hh.d);simp only[pK.out]at HF2;have b0:=HI1.out.box.cell 0 rfl;have h4:=HI1.out.hd.cell 4 rfl;have t1:=HI1.out.blk.cell 1 rfl;have N1:=World.new_ne W1 ⟨w.heap.size,0,none⟩ b0;have N2:=World.new_ne W1 ⟨w.heap.size+1,4,none⟩ h4;have N3:=World.new_ne W1 ⟨tb,1,none⟩ t1;clear hK1
  go_wp2_with fail
  go_region_held3 (fun w'=>w'.cell? ⟨w.heap.size,0,none⟩=some (.pointer (some ⟨tb,0,none⟩))∧w'.cell? ⟨w.heap.size+1,4,none⟩=some (.int .u32 h.d)∧w'.cell? ⟨tb,1,none⟩=some (.pointer (some ⟨db,0,none⟩))) (first|exact⟨mr e0 e3,mr e1 e4,mr e2 e5⟩|go_keep)
   ((go_at_call 201;refine(HF2.out _ (by first|exact(Kp.refl none' W1).drew|exact((Kp.refl none' W1).drew.alloc _)|exact((Kp.refl none' W1).alloc _).drew)).mono ?_;rintro e w3 ⟨rfl,hk3⟩
     have hk4:Kp none' W1 w3:=by first|exact(Kp.refl none' W1).drew.trans hk3|exact((Kp.refl none' W1).drew.alloc _).trans hk3|exact((Kp.refl none' W1).alloc _).drew.trans hk3
     have e0:=hk4.cell b0 (fun x=>x);have e1:=hk4.cell h4 (fun x=>x);have e2:=hk4.cell t1 (fun x=>x);have e3:(⟨w.heap.size,0,none⟩:Addr).block≠W1.heap.size:=N1.symm;have e4:(⟨w.heap.size+1,4,none⟩:Addr).block≠W1.heap.size:=N2.symm;have e5:(⟨tb,1,none⟩:Addr).block≠W1.heap.size:=N3.symm;first
      |(have hb3:=(ag.new W1.drew [.int .u32 0,.int .i64 0] 151).kp hk3 (fun x=>x)
        have z0:w3.cell? ⟨W1.heap.size,0,none⟩=some (.int .u32 0):=hb3.cell 0 rfl;have z1:w3.cell? ⟨W1.heap.size,1,none⟩=some (.int .i64 0):=hb3.cell 1 rfl;have y0:w3.frozen? ⟨W1.heap.size,0,none⟩=false:=hb3.fz 0;have y1:w3.frozen? ⟨W1.heap.size,1,none⟩=false:=hb3.fz 1
        clear hb3)
      |skip
     have aF:=ae hk3;have aH:=ae hk4;clear hk3 hk4))
  ·have hK2:Kp none' W1 (w3.alloc (.cells #[.int .u32 (dR (D.best h.d none)).1,.int .i64 (dR (D.best h.d none)).2] 151)):=aH.out.alloc _;obtain⟨W2,hW2⟩:∃W,w3.alloc (.cells #[.int .u32 (dR (D.best h.d none)).1,.int .i64 (dR (D.best h.d none)).2] 151)=W:=⟨_,rfl⟩
   rw[hW2]at hK2 ⊢;clear hW2;have HI2:=ae (HI1.out.old hK2);have ak:=ae (ax.out.trans hK2);have b0:=HI2.out.box.cell 0 rfl;have t2:=HI2.out.blk.cell 2 rfl;have tN:=ae (AB W2 tb w.heap.size (w.heap.size+1) (.pointer (some ⟨sb,0,none⟩)) (.pointer (some ⟨db,0,none⟩)) fv (.slice po zs.length qV) l zs h HI2.out oJ.out hzl);rw[CJ.out]at tN;clear hK2 h4 t1
   go_wp2_with fail
   refine tN.out.mono ?_;rintro e w5 ⟨rfl,hk5⟩;have pJ:=ae (HI2.out.old hk5);have a_:=ae (ak.out.trans hk5);have b0:=pJ.out.box.cell 0 rfl;have t2:=pJ.out.blk.cell 2 rfl;obtain⟨hi',he⟩:=v_ (l:=l) hcl;obtain⟨g,off,cap',e1,hc⟩:=pJ.out.BB.at qw (by decide) c hi';injection e1 with e1 _ e3
   subst e1 e3;rw[he,Tn.out]at hc;have p1:w5.cell? ⟨g,off+c*2+1,none⟩=some (.int .u64 x3):=hc 1 _ rfl;have hw:IntKind.i64.wrap (c:Int)=(c:Int):=by rw[IntKind.wrap_i64];omega
   have hci:(c:Int)<zs.length:=by omega
   clear hk5 hc he hi' tN
   go_wp2_with fail
   go_ret
   exact⟨rfl,a_.out⟩
  ·have hK2:Kp none' W1 ((w3.setCell ⟨W1.heap.size,0,none⟩ (.int .u32 (dR (D.best h.d none)).1)).setCell ⟨W1.heap.size,1,none⟩ (.int .i64 (dR (D.best h.d none)).2)):=(aH.out.set (p:=⟨W1.heap.size,0,none⟩) (.inr (Nat.le_refl _)) _).set (p:=⟨W1.heap.size,1,none⟩) (.inr (Nat.le_refl _)) _;obtain⟨W2,hW2⟩:∃W,(w3.setCell ⟨W1.heap.size,0,none⟩ (.int .u32 (dR (D.best h.d none)).1)).setCell ⟨W1.heap.size,1,none⟩ (.int .i64 (dR (D.best h.d none)).2)=W:=⟨_,rfl⟩
   rw[hW2]at hK2 ⊢;clear hW2;have HI2:=ae (HI1.out.old hK2);have ak:=ae (ax.out.trans hK2);have b0:=HI2.out.box.cell 0 rfl;have t2:=HI2.out.blk.cell 2 rfl;have tN:=ae (AB W2 tb w.heap.size (w.heap.size+1) (.pointer (some ⟨sb,0,none⟩)) (.pointer (some ⟨db,0,none⟩)) fv (.slice po zs.length qV) l zs h HI2.out oJ.out hzl);rw[CJ.out]at tN;clear hK2 h4 t1
   go_wp2_with fail
   refine tN.out.mono ?_;rintro e w5 ⟨rfl,hk5⟩;have pJ:=ae (HI2.out.old hk5);have a_:=ae (ak.out.trans hk5);have b0:=pJ.out.box.cell 0 rfl;have t2:=pJ.out.blk.cell 2 rfl;obtain⟨hi',he⟩:=v_ (l:=l) hcl;obtain⟨g,off,cap',e1,hc⟩:=pJ.out.BB.at qw (by decide) c hi';injection e1 with e1 _ e3
   subst e1 e3;rw[he,Tn.out]at hc;have p1:w5.cell? ⟨g,off+c*2+1,none⟩=some (.int .u64 x3):=hc 1 _ rfl;have hw:IntKind.i64.wrap (c:Int)=(c:Int):=by rw[IntKind.wrap_i64];omega
   have hci:(c:Int)<zs.length:=by omega
   clear hk5 hc he hi' tN
   go_wp2_with fail
   go_ret
   exact⟨rfl,a_.out⟩
end Go.Proofs.YtjiehhlghjnfhaaGreatDoor
