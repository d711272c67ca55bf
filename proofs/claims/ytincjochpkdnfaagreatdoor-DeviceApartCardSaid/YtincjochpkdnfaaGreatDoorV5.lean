/- What the functions of package ffs compute (for the calendar). Printed by wip/cq.py. -/
import Derived.Test.YtincjochpkdnfaaGreatDoorV2
import Derived.Test.YtincjochpkdnfaaGreatDoorV3
set_option linter.all false
set_option maxHeartbeats 2000000
namespace Go.Proofs.YtincjochpkdnfaaGreatDoor
namespace cq
open Go.RowKit
def wd(l:List Nat):List Value:=l.map (λ(x:Nat)=>Value.int .u64 x)
def AS(l:List Nat)(i:Nat)(h:i<l.length):(wd l)[i]? =some (.int .u64 (l.getD i 0:Nat)):=by simp[wd,List.getD,h]
def AT(l:List Nat)(i x:Nat):(wd l).set i (.int .u64 x)=wd (l.set i x):=by simp[wd,Is]
structure ck (w:World) (p k bl:Nat) (B:Nat->Nat) (L:Lv) (n:Int):Prop where
 top:∃cap,ag w p [.slice (some ⟨bl,0,none⟩) k cap,.int .i64 n] 306
 lv:∃rest,ag w bl ((List.range k).map (λj=>Value.slice (some ⟨B j,0,none⟩) (L j).length (L j).length)++rest) 236
 wd:∀j,j<k->ag w (B j) (wd (L j)) 38
def ck.c0{w:World}{p k bl:Nat}{B:Nat->Nat}{L:Lv}{n:Int}(h:ck w p k bl B L n):∃cap,w.cell? ⟨p,0,none⟩=some (.slice (some ⟨bl,0,none⟩) k cap):=by
 obtain⟨cap,h⟩:=h.top;exact⟨cap,h.ai⟩
def ck.c1{w:World}{p k bl:Nat}{B:Nat->Nat}{L:Lv}{n:Int}(h:ck w p k bl B L n):w.cell? ⟨p,1,none⟩=some (.int .i64 n):=by
 obtain⟨cap,h⟩:=h.top;exact h.aj
def ck.cl{w:World}{p k bl:Nat}{B:Nat->Nat}{L:Lv}{n:Int}(h:ck w p k bl B L n)(j:Nat)(a:j<k):w.cell? ⟨bl,j,none⟩=some (.slice (some ⟨B j,0,none⟩) (L j).length (L j).length):=by
 obtain⟨rest,h⟩:=h.lv;exact h.cell j (by rw[Jf (by simpa using a)];simp[a])
def ck.cw{w:World}{p k bl:Nat}{B:Nat->Nat}{L:Lv}{n:Int}(h:ck w p k bl B L n)(j i:Nat)(a:j<k)(hi:i<(L j).length):w.cell? ⟨B j,i,none⟩=some (.int .u64 ((L j).getD i 0:Nat)):=
 (h.wd j a).cell i (AS _ _ hi)
def yJ(p k bl:Nat)(B:Nat->Nat)(L:Lv)(n:Int)(w:World)(h:ck w p k bl B L n):
    Calls Tryz.prog 213 #[.pointer (some ⟨p,0,none⟩)] w λe w'=>e=.returned (.int .i64 n)/\w=w':=by
 have c1:=h.c1;clear h;go_enter Tryz.func213,Tryz.ntmps213;go_wp2;go_ret;exact⟨rfl,rfl⟩
def rR(p k bl:Nat)(B:Nat->Nat)(L:Lv)(n:Int)(w:World)(h:ck w p k bl B L n)(k1:1<=k)(k3:k<=3)(a:(L (k-1)).length<=4096):
    Calls Tryz.prog 119 #[.pointer (some ⟨p,0,none⟩)] w λe w'=>e=.returned (.int .i64 (64*(L (k-1)).length))/\∃d,w'=w.drewN d:=by
 obtain⟨cap,c0⟩:=h.c0;have cl:=h.cl (k-1) (by omega);clear h;have b:((k:Int)==0)=false:=by simp;omega
 generalize (L (k-1)).length=N at*;obtain⟨k,rfl⟩:∃j,k=j+1:=⟨k-1,by omega⟩
 simp only[J4]at cl;go_enter Tryz.func119,Tryz.ntmps119;go_wp2;go_quiet (fail)
 go_wp2;go_ret;exact⟨rfl,_,rfl⟩
def yK(p k bl:Nat)(B:Nat->Nat)(L:Lv)(n:Int)(w:World)(h:ck w p k bl B L n)(k1:1<=k)(k3:k<=3)(a:(L (k-1)).length<=4096):
    Calls Tryz.prog 119 #[.pointer (some ⟨p,0,none⟩)] w λe w'=>e=.returned (.int .i64 (64*(L (k-1)).length))/\Kp ae w w':=
 (rR p k bl B L n w h k1 k3 a).mono λ_ _ ⟨b,c⟩=>⟨b,ks c⟩
def hU(x b:Nat):((x:Int)/2^b)=((x>>>b:Nat):Int):=by rw[JZ];simp
def Fk(x b:Nat)(a:x<18446744073709551616):(bits BinOp.and IntKind.u64 ((x:Int)/2^b) 1==1)=x.testBit b:=by
 rw[hU];have c:x>>>b<18446744073709551616:=IL (JW _ _) a;have e:bits BinOp.and IntKind.u64 ((x>>>b:Nat):Int) 1=(((x>>>b)&&&1:Nat):Int):=JY (x>>>b) 1 c (by omega);rw[e,Nat.testBit,Kl,Nat.and_comm,Kl];have:x>>>b%2=0\/x>>>b%2=1:=by omega
 rcases this with h|h<;>rw[h]<;>simp
def Du(p k bl:Nat)(B:Nat->Nat)(L:Lv)(n i:Int)(w:World)(h:ck w p k bl B L n)(k1:1<=k)(k3:k<=3)(l:(L (k-1)).length<=4096)(f:∀x∈L (k-1),x<18446744073709551616):
    Calls Tryz.prog 218 #[.pointer (some ⟨p,0,none⟩),.int .i64 i] w λe w'=>e=.returned (.bool (decide (0<=i/\i<64*(L (k-1)).length)&&bm (L (k-1)) i.toNat))/\∃d,w'=w.drewN d:=by
 have a:=rR p k bl B L n w h k1 k3 l;by_cases u:i<0
 ·have hF:decide (0<=i/\i<64*(L (k-1)).length)=false:=by simp;omega
  have HF:=aa hF;clear hF a h;go_enter Tryz.func218,Tryz.ntmps218;go_wp2;go_ret;exact⟨dP (by rw[HF.out];rfl),0,rfl⟩
 ·obtain⟨z,rfl⟩:∃z:Nat,i=z:=⟨i.toNat,by omega⟩
  by_cases v:(z:Int)<64*(L (k-1)).length
  ·have hz:z/64<(L (k-1)).length:=by omega
   obtain⟨cap,c0⟩:=h.c0;have cl:=h.cl (k-1) (by omega);have cw:=h.cw (k-1) (z/64) (by omega) hz;have m:=dQ (L (k-1)) (z/64) f;have g:=Fk ((L (k-1)).getD (z/64) 0) (z%64) m;have hF:(decide (0<=(z:Int)/\(z:Int)<64*(L (k-1)).length)&&bm (L (k-1)) (z:Int).toNat)=bm (L (k-1)) z:=by simp;omega
   have HF:=aa hF;clear hF;have b:((L (k-1)).getD (z/64) 0).testBit (z%64)=bm (L (k-1)) z:=rfl;rw[b]at g
   have o:=aa g;clear g b;have c:=aa a;clear a f;generalize (L (k-1)).getD (z/64) 0=x at*;generalize q:(L (k-1)).length=N at*;obtain⟨k,rfl⟩:∃j,k=j+1:=⟨k-1,by omega⟩
   simp only[J4]at*;have r:=c0;have s:=cl;have t:=cw;clear h q;go_enter Tryz.func218,Tryz.ntmps218;go_wp2_with(go_at_call 119;refine(c.out).mono ?_;rintro e w' ⟨rfl,d,rfl⟩;clear c);go_quiet (fail)
   go_wp2;go_ret;exact⟨dP (by rw[HF.out,<-o.out]),_,World.drewN_drewN _ _ _⟩
  ·have hF:decide (0<=(z:Int)/\(z:Int)<64*(L (k-1)).length)=false:=by simp;omega
   have HF:=aa hF;clear hF;have c:=aa a;clear a;clear h f;go_enter Tryz.func218,Tryz.ntmps218;go_wp2_with(go_at_call 119;refine(c.out).mono ?_;rintro e w' ⟨rfl,d,rfl⟩;clear c);go_ret;exact⟨dP (by rw[HF.out];rfl),_,rfl⟩
def vR(p k bl:Nat)(B:Nat->Nat)(L:Lv)(n i:Int)(w:World)(h:ck w p k bl B L n)(k1:1<=k)(k3:k<=3)(a:(L (k-1)).length<=4096)(b:∀x∈L (k-1),x<18446744073709551616):
    Calls Tryz.prog 218 #[.pointer (some ⟨p,0,none⟩),.int .i64 i] w λe w'=>e=.returned (.bool (decide (0<=i/\i<64*(L (k-1)).length)&&bm (L (k-1)) i.toNat))/\Kp ae w w':=
 (Du p k bl B L n i w h k1 k3 a b).mono λ_ _ ⟨c,d⟩=>⟨c,ks d⟩
def nM(L:Lv)(l i:Nat)(h:64*(L l).length<=i):cT L l i= -1:=by unfold cT;rw[Hl h]
def l3(L:Lv)(l i:Nat)(h:¬64*(L l).length<=i)(hw:(L l).getD (i/64) 0>>>(i%64)≠0):cT L l i=(i:Int)+Lib.ctz 64 ((L l).getD (i/64) 0>>>(i%64)):=by
 unfold cT;rw[Hk h,Hl hw]
def s4(L:Lv)(i:Nat)(h:¬64*(L 0).length<=i)(hw:(L 0).getD (i/64) 0>>>(i%64)=0):cT L 0 i= -1:=by
 unfold cT;rw[Hk h,Hk (by simpa using hw)]
def uB(L:Lv)(l i:Nat)(h:¬64*(L (l+1)).length<=i)(hw:(L (l+1)).getD (i/64) 0>>>(i%64)=0):
    cT L (l+1) i=if cT L l (i/64+1)<0 then -1 else 64*cT L l (i/64+1)+Lib.ctz 64 ((L (l+1)).getD (cT L l (i/64+1)).toNat 0):=by
 rw[cT,Hk h,Hk (by simpa using hw)]
def rS(x:Nat)(a:x<18446744073709551616):Lib.ctz 64 x<=64:=by
 by_cases h:x=0
 ·subst h;decide
 ·have:=(kz x h a).1;omega
def rT(l:Nat)(h:l<=2):64^l<=4096:=by
 have:l=0\/l=1\/l=2:=by omega
 rcases this with rfl|rfl|rfl<;>decide
def Ok.le{k:Nat}{L:Lv}{m:List Int}(h:Ok k L m)(k3:k<=3)(j:Nat)(a:j<k):(L j).length<=4096:=by
 rw[h.len j a];exact rT j (by omega)
def AU(p k bl:Nat)(B:Nat->Nat)(L:Lv)(n:Int)(m:List Int)(w:World)(h:ck w p k bl B L n)(ok:Ok k L m)(k3:k<=3)(o:dH w):∀(l i:Nat),l<k->i<=9223372036854775807->
    Calls Tryz.prog 223 #[.pointer (some ⟨p,0,none⟩),.int .i64 l,.int .i64 i] w λe w'=>e=.returned (.int .i64 (cT L l i))/\w=w':=by
 obtain⟨cap,c0⟩:=h.c0;intro l;induction l with
 |zero=>
  intro i f hi;have cl:=h.cl 0 f;have K:=ok.le k3 0 f;by_cases s:64*(L 0).length<=i
  ·have HF:=aa (nM L 0 i s);clear h ok o;go_enter Tryz.func223,Tryz.ntmps223;go_wp2;go_ret;exact⟨dh HF.out.symm,rfl⟩
  ·have hz:i/64<(L 0).length:=by omega
   have cw:=h.cw 0 (i/64) f hz;have G:=dQ (L 0) (i/64) (ok.e9 0 f);by_cases g:(L 0).getD (i/64) 0>>>(i%64)=0
   ·have HF:=aa (s4 L i s g);have t:(((((L 0).getD (i/64) 0:Nat):Int)/2^(i%64)) != 0)=false:=by rw[hU,g];rfl
    clear h ok o g;generalize (L 0).getD (i/64) 0=x at*;go_enter Tryz.func223,Tryz.ntmps223;go_wp2;go_ret;exact⟨dh HF.out.symm,rfl⟩
   ·have HF:=aa (l3 L 0 i s g);have t:(((((L 0).getD (i/64) 0:Nat):Int)/2^(i%64)) != 0)=true:=by rw[hU];simp only[bne_iff_ne];omega
    have z:=IL (JW ((L 0).getD (i/64) 0) (i%64)) G;have b:=tz _ z w o;have A:=rS _ z;have he:=hU ((L 0).getD (i/64) 0) (i%64);clear h ok o g;generalize (L 0).getD (i/64) 0>>>(i%64)=y at*;generalize (L 0).getD (i/64) 0=x at*;have H:=aa he;have C:=aa b;clear he b;generalize Lib.ctz 64 y=c at*;go_enter Tryz.func223,Tryz.ntmps223;go_wp2_with(go_at_call 114;rw[H.out];refine(C.out).mono ?_;rintro e w' ⟨rfl,rfl⟩);go_ret;exact⟨dh HF.out.symm,rfl⟩
 |succ l F=>
  intro i f hi;have cl:=h.cl (l+1) f;have K:=ok.le k3 (l+1) f;have M:l<=2:=by omega
  by_cases s:64*(L (l+1)).length<=i
  ·have HF:=aa (nM L (l+1) i s);clear h ok o F;go_enter Tryz.func223,Tryz.ntmps223;go_wp2;go_ret;exact⟨dh HF.out.symm,rfl⟩
  ·have hz:i/64<(L (l+1)).length:=by omega
   have cw:=h.cw (l+1) (i/64) f hz;have G:=dQ (L (l+1)) (i/64) (ok.e9 _ f);by_cases g:(L (l+1)).getD (i/64) 0>>>(i%64)=0
   ·have d:=uB L l i s g;have t:(((((L (l+1)).getD (i/64) 0:Nat):Int)/2^(i%64)) != 0)=false:=by rw[hU,g];rfl
    have q:=F (i/64+1) (by omega) (by omega);have u:=oL ok.len ok.e9 ok.up l (i/64+1) (by omega);have hp:64^(l+1)=(L (l+1)).length:=(ok.len _ f).symm;have v:=λj N=>h.cw (l+1) j f N;have D:=ok.e9 (l+1) f;clear h ok g F;generalize cT L l (i/64+1)=r at*;generalize (L (l+1)).getD (i/64) 0=x at*;have J:=aa q;clear q;rcases u with⟨I,_⟩|⟨a,I,_,ha,_⟩
    ·subst I;have HF:Hid (cT L (l+1) i= -1):=by rw[d];rfl
     clear d v hp o;go_enter Tryz.func223,Tryz.ntmps223;go_wp2_with(go_at_call 223;refine(J.out).mono ?_;rintro e w' ⟨rfl,rfl⟩);go_ret;exact⟨dh HF.out.symm,rfl⟩
    ·subst I;rw[hp]at ha
     have O:=v a ha;have E:=dQ (L (l+1)) a D;rw[Hk (by omega)]at d
     simp only[HZ]at d;have b:=tz _ E w o;have A:=rS _ E;have HF:=aa d;have C:=aa b;clear d v hp b o;generalize (L (l+1)).getD a 0=y at*;generalize Lib.ctz 64 y=c at*;go_enter Tryz.func223,Tryz.ntmps223;go_wp2_with(first|(go_at_call 223;refine(J.out).mono ?_;rintro e w' ⟨rfl,rfl⟩)|(go_at_call 114;refine(C.out).mono ?_;rintro e w' ⟨rfl,rfl⟩));go_ret;exact⟨dh HF.out.symm,rfl⟩
   ·have HF:=aa (l3 L (l+1) i s g);have t:(((((L (l+1)).getD (i/64) 0:Nat):Int)/2^(i%64)) != 0)=true:=by rw[hU];simp only[bne_iff_ne];omega
    have z:=IL (JW ((L (l+1)).getD (i/64) 0) (i%64)) G;have b:=tz _ z w o;have A:=rS _ z;have he:=hU ((L (l+1)).getD (i/64) 0) (i%64);clear h ok o g F;generalize (L (l+1)).getD (i/64) 0>>>(i%64)=y at*;generalize (L (l+1)).getD (i/64) 0=x at*;have H:=aa he;have C:=aa b;clear he b;generalize Lib.ctz 64 y=c at*;go_enter Tryz.func223,Tryz.ntmps223;go_wp2_with(go_at_call 114;rw[H.out];refine(C.out).mono ?_;rintro e w' ⟨rfl,rfl⟩);go_ret;exact⟨dh HF.out.symm,rfl⟩
def Fp(p bl:Nat)(B:Nat->Nat)(k:Nat):Nat->Prop:=λb=>b=p\/b=bl\/∃j,j<k/\b=B j
def kF(b:Nat)(a:b<64):IntKind.u64.wrap ((2:Int)^b)=((2^b:Nat):Int):=by
 have h:2^b<2^64:=Jb (by decide) a;rw[HO];have e:(2:Int)^b=((2^b:Nat):Int):=by simp
 rw[e];generalize 2^b=y at*;omega
def AV(x b:Nat)(c:x<18446744073709551616)(a:b<64):bits BinOp.or IntKind.u64 (x:Int) (IntKind.u64.wrap ((2:Int)^b))=((x|||2^b:Nat):Int):=by
 rw[kF b a];exact bits_or_u64_nat x _ c (Jb (n:=64) (by decide) a)
def ck.kp{S:Nat->Prop}{w w':World}{p k bl:Nat}{B:Nat->Nat}{L:Lv}{n:Int}(h:ck w p k bl B L n)(K:Kp S w w')(a:∀b,Fp p bl B k b->¬S b):ck w' p k bl B L n:=
 ⟨by obtain⟨c,h⟩:=h.top;exact⟨c,h.kp K (a _ (.inl rfl))⟩,by obtain⟨c,h⟩:=h.lv;exact⟨c,h.kp K (a _ (.inr (.inl rfl)))⟩,λj d=>(h.wd j d).kp K (a _ (.inr (.inr ⟨j,d,rfl⟩)))⟩
def ck.old{w w':World}{p k bl:Nat}{B:Nat->Nat}{L:Lv}{n:Int}(h:ck w p k bl B L n)(K:Kp ae w w'):ck w' p k bl B L n:=h.kp K (λ_ _ h=>h)
def ck.lt{w:World}{p k bl:Nat}{B:Nat->Nat}{L:Lv}{n:Int}(h:ck w p k bl B L n){b:Nat}(a:Fp p bl B k b):b<w.heap.size:=by
 rcases a with rfl|rfl|⟨j,d,rfl⟩
 ·obtain⟨c,h⟩:=h.top;exact h.lt
 ·obtain⟨c,h⟩:=h.lv;exact h.lt
 ·exact(h.wd j d).lt
def yL(i j:Nat)(h:64^i=64^j):i=j:=by
 rcases Ki i j with b|b|b
 ·have:=Jb (a:=64) (by decide) b;omega
 ·exact b
 ·have:=Jb (a:=64) (by decide) b;omega
def ck.ne{w:World}{p k bl:Nat}{B:Nat->Nat}{L:Lv}{n:Int}(h:ck w p k bl B L n)(hlen:∀j,j<k->(L j).length=64^j):
    p≠bl/\(∀j,j<k->B j≠p/\B j≠bl)/\∀i j,i<k->j<k->i≠j->B i≠B j:=by
 obtain⟨c,d⟩:=h.top;obtain⟨r,f⟩:=h.lv;refine⟨?_,λj a=>⟨?_,?_⟩,λi j hi a b=> ?_⟩
 ·rintro rfl;have:=(d.inj f).2;simp at this
 ·rintro rfl;have:=(d.inj (h.wd j a)).2;simp at this
 ·rintro rfl;have:=(f.inj (h.wd j a)).2;simp at this
 ·intro e;have g:=h.wd i hi;rw[e]at g
  have:=HC List.length (g.inj (h.wd j a)).1;simp only[Go.Proofs.YtincjochpkdnfaaGreatDoor.cq.wd,Hq,hlen i hi,hlen j a]at this;exact b (yL _ _ this)
def ck.qC{w:World}{p k bl:Nat}{B:Nat->Nat}{L:Lv}{n:Int}(h:ck w p k bl B L n)(hlen:∀j,j<k->(L j).length=64^j)(n':Int):ck (w.setCell ⟨p,1,none⟩ (.int .i64 n')) p k bl B L n':=by
 obtain⟨b,d,_⟩:=h.ne hlen;refine⟨?_,?_,λj a=>(h.wd j a).bJ (d j a).1 _⟩
 ·obtain⟨c,h⟩:=h.top;exact⟨c,h.set 1 _⟩
 ·obtain⟨c,h⟩:=h.lv;exact⟨c,h.bJ (λe=>b e.symm) _⟩
def ck.CW{w:World}{p k bl:Nat}{B:Nat->Nat}{L:Lv}{n:Int}(h:ck w p k bl B L n)(hlen:∀j,j<k->(L j).length=64^j)(l i x:Nat)(a:l<k):
    ck (w.setCell ⟨B l,i,none⟩ (.int .u64 x)) p k bl B (upd L l ((L l).set i x)) n:=by
 obtain⟨g,d,f⟩:=h.ne hlen;refine⟨?_,?_,λj b=> ?_⟩
 ·obtain⟨c,h⟩:=h.top;exact⟨c,h.bJ (λe=>(d l a).1 e.symm) _⟩
 ·obtain⟨c,h⟩:=h.lv;refine⟨c,?_⟩;have e:(List.range k).map (λj=>Value.slice (some ⟨B j,0,none⟩) (upd L l ((L l).set i x) j).length (upd L l ((L l).set i x) j).length)=(List.range k).map (λj=>Value.slice (some ⟨B j,0,none⟩) (L j).length (L j).length):=by
   apply Jc;intro j _;unfold upd;split
   ·rename_i e;subst e;simp
   ·rfl
  rw[e];exact h.bJ (λe=>(d l a).2 e.symm) _
 ·by_cases e:j=l
  ·subst e;simp only[upd,if_true];rw[<-AT];exact(h.wd j b).set i _
  ·simp only[upd,Hk e];exact(h.wd j b).bJ (f j l b a e) _
def Ok.size{k:Nat}{L:Lv}{m:List Int}(ok:Ok k L m):64*(L (k-1)).length=64^k:=by
 have:=ok.k1;rw[ok.len _ (by omega),<-Nat.pow_succ'];congr 1;omega
def AW(p k bl:Nat)(B:Nat->Nat)(L:Lv)(n i:Int)(m:List Int)(w:World)(h:ck w p k bl B L n)(ok:Ok k L m)(k3:k<=3)(c:¬(0<=i/\i<((64^k:Nat):Int))\/i∈m):
    Calls Tryz.prog 221 #[.pointer (some ⟨p,0,none⟩),.int .i64 i] w λe w'=>e=.returned (.bool false)/\Kp ae w w':=by
 have k1:=ok.k1;have b:(L (k-1)).length<=4096:=ok.le k3 _ (by omega);have hsz:=λ(w':World) (f:Kp ae w w')=>yK p k bl B L n w' (h.old f) k1 k3 b;have a:=λ(w':World) (f:Kp ae w w')=>vR p k bl B L n i w' (h.old f) k1 k3 b (ok.e9 _ (by omega));have o:=ok.size;by_cases u:i<0
 ·clear h ok hsz a c;go_enter Tryz.func221,Tryz.ntmps221;go_wp2;go_ret;exact⟨rfl,Kp.refl _ _⟩
 ·obtain⟨z,rfl⟩:∃z:Nat,i=z:=⟨i.toNat,by omega⟩
  by_cases q:z<64^k
  ·have hz:(z:Int)∈m:=by rcases c with h|h;(exact absurd ⟨by omega,by omega⟩ h);exact h
   have r:bm (L (k-1)) z=true:=by rw[ok.leaf z q];simpa using hz
   have s:(decide (0<=(z:Int)/\(z:Int)<64*(L (k-1)).length)&&bm (L (k-1)) (z:Int).toNat)=true:=by simp[r];omega
   simp only[s]at a;have g:z<64*(L (k-1)).length:=by omega
   have j:=aa hsz;have t:=aa a;generalize (L (k-1)).length=N at*;clear h ok hsz a c r s o hz;go_enter Tryz.func221,Tryz.ntmps221;go_wp2_with fail;refine(j.out _ (Kp.refl _ _)).mono ?_;rintro e w1 ⟨rfl,d⟩;go_wp2_with fail;refine(t.out _ d).mono ?_;rintro e v ⟨rfl,l⟩;go_wp2;go_ret;exact⟨rfl,d.trans l⟩
  ·have g:¬z<64*(L (k-1)).length:=by omega
   have j:=aa hsz;generalize (L (k-1)).length=N at*;clear h ok hsz a c o q;go_enter Tryz.func221,Tryz.ntmps221;go_wp2_with fail;refine(j.out _ (Kp.refl _ _)).mono ?_;rintro e w1 ⟨rfl,d⟩;go_wp2;go_ret;exact⟨rfl,d⟩
def Fl(p k bl:Nat)(B:Nat->Nat)(L:Lv)(n:Int)(i:Nat)(m:List Int)(w:World)(h:ck w p k bl B L n)(ok:Ok k L m)(k3:k<=3)(hi:i<64^k)(hm:(i:Int)∉m)(hn:0<=n/\n<=1000000):
    Calls Tryz.prog 221 #[.pointer (some ⟨p,0,none⟩),.int .i64 i] w λe w'=>e=.returned (.bool true)/\ck w' p k bl B (hP L k i) (n+1)/\Kp (Fp p bl B k) w w':=by
 have k1:=ok.k1;have g:(L (k-1)).length<=4096:=ok.le k3 _ (by omega);have hsz:=λ(w':World) (d:Kp ae w w')=>yK p k bl B L n w' (h.old d) k1 k3 g;have r:=λ(w':World) (d:Kp ae w w')=>vR p k bl B L n i w' (h.old d) k1 k3 g (ok.e9 _ (by omega));have af:i<64*(L (k-1)).length:=by rw[ok.size];exact hi
 have hb:bm (L (k-1)) i=false:=by rw[ok.leaf i hi];simpa using hm
 have V:(decide (0<=(i:Int)/\(i:Int)<64*(L (k-1)).length)&&bm (L (k-1)) (i:Int).toNat)=false:=by simp[hb]
 simp only[V]at r;have W:=aa hsz;have X:=aa r;clear hsz r V;have H:=aa h;generalize hN:(L (k-1)).length=N at*;clear h;go_enter Tryz.func221,Tryz.ntmps221;go_wp2_with fail;refine(W.out _ (Kp.refl _ _)).mono ?_;rintro e w1 ⟨rfl,u⟩;go_wp2_with fail;refine(X.out _ u).mono ?_;rintro e Q ⟨rfl,C⟩;have D:=(H.out.old u).old C;obtain⟨cap,c0⟩:=D.c0;have c1:=D.c1;have hp:p<Q.heap.size:=D.lt (.inl rfl);have fz:∀o,Q.frozen? ⟨p,o,none⟩=false:=by obtain⟨c,h⟩:=D.top;exact λo=>h.fz o
 have R:=D.qC ok.len (n+1);obtain⟨Y,ag⟩:=R.c0;have ah:=fz 1;have an:=aa D;have ai:=aa R;have S:Kp (Fp p bl B k) w (Q.setCell ⟨p,1,none⟩ (.int .i64 (n+1))):=((u.trans C).mono (λ_ _ h=>h.elim)).set (.inl (.inl rfl)) _;have aj:Hid (∃q:Int,(k:Int)-1=q):=⟨_,rfl⟩
 clear D R fz u C H W X;go_wp2;go_loopw [1,5] (λs1 T wr=>∃(l:Nat) (b:Lv) (a:Nat) (q:Int),l<=k/\T=.int .i64 q/\q=(l:Int)-1/\s1=.int .i64 a/\a<64^l/\Hid (hP b l a=hP L k i)/\Hid (∀j,j<k->(b j).length=64^j)/\Hid (∀j,j<k->∀x∈b j,x<18446744073709551616)/\Hid (ck wr p k bl B b (n+1))/\Hid (Kp (Fp p bl B k) w wr)) (λ_ T _=>(intOf T+1).toNat)
 case atStart=>exact⟨k,L,i,_,Hm _,rfl,rfl,rfl,hi,rfl,ok.len,ok.e9,ai.out,S⟩
 case round=>
  obtain⟨l,b,a,q,hl,rfl,Z,rfl,J,E,hlen,f,hf,d⟩:=hrel;cases l with
  |zero=>
   obtain rfl:q= -1:=by omega
   clear Z;go_wp2;go_ret;exact⟨rfl,by rw[<-E.out];exact hf.out,d.out⟩
  |succ l=>
   obtain rfl:q=(l:Int):=by omega
   clear Z;have v:(b l).length=64^l:=hlen.out l (by omega);have hz:a/64<(b l).length:=by rw[v];rw[Ij]at J;omega
   obtain⟨ac,d0⟩:=hf.out.c0;have dl:=hf.out.cl l (by omega);have dw:=hf.out.cw l (a/64) (by omega) hz;have fw:wr.frozen? ⟨B l,a/64,none⟩=false:=(hf.out.wd l (by omega)).fz _;have hx:=dQ (b l) (a/64) (f.out l (by omega));have ak:(b l).length<=4096:=by rw[v];exact rT l (by omega)
   have ad:a<64*(b l).length:=by omega
   have y:=hf.out.CW hlen.out l (a/64) ((b l).getD (a/64) 0|||2^(a%64)) (by omega);have z:=d.out.set (p:=⟨B l,a/64,none⟩) (.inl (.inr (.inr ⟨l,by omega,rfl⟩))) (.int .u64 ((b l).getD (a/64) 0|||2^(a%64):Nat));have K:Hid (hP (upd b l ((b l).set (a/64) ((b l).getD (a/64) 0|||2^(a%64)))) l (a/64)=hP L k i):=E.out;have F:Hid (∀j,j<k->(upd b l ((b l).set (a/64) ((b l).getD (a/64) 0|||2^(a%64))) j).length=64^j):=λj M=>by
    unfold upd;split
    ·rename_i e;subst e;rw[Hr];exact hlen.out j M
    ·exact hlen.out j M
   have G:Hid (∀j,j<k->∀x∈upd b l ((b l).set (a/64) ((b l).getD (a/64) 0|||2^(a%64))) j,x<18446744073709551616):=λj M=>by
    unfold upd;split
    ·rename_i e;subst e;exact mP _ _ (f.out j M)
    ·exact f.out j M
   have s:=aa y;clear y;have al:=aa v;clear v;have O:=AV _ (a%64) hx (Iw _ (by decide));have P:a/64<64^l:=by rw[Ij]at J;omega
   have I:=aa z;clear z;have U:=aa O;clear O;generalize (b l).getD (a/64) 0=x at*;clear E hlen f hf d;go_wp2;go_region;rw[U.out];have t:=s.out;have A:=I.out;generalize wr.setCell ⟨B l,a/64,none⟩ (.int .u64 (x|||2^(a%64):Nat))=wn at*;replace s:=aa t;replace I:=aa A;clear t A;go_wp2;go_roundw
   case rel=>exact⟨l,_,a/64,_,by omega,rfl,rfl,by go_num,P,K,F,G,s.out.kp (Kp.refl ae _).drew (λ_ _ h=>h),I.out.drew⟩
   case measure=>simp[intOf]
def yM(p k bl:Nat)(B:Nat->Nat)(L:Lv)(n i:Int)(m:List Int)(w:World)(h:ck w p k bl B L n)(ok:Ok k L m)(k3:k<=3)(c:i∉m):
    Calls Tryz.prog 210 #[.pointer (some ⟨p,0,none⟩),.int .i64 i] w λe w'=>e=.returned (.bool false)/\Kp ae w w':=by
 have k1:=ok.k1;have b:(L (k-1)).length<=4096:=ok.le k3 _ (by omega);have a:=vR p k bl B L n i w h k1 k3 b (ok.e9 _ (by omega));have f:(decide (0<=i/\i<64*(L (k-1)).length)&&bm (L (k-1)) i.toNat)=false:=by
  by_cases hi:0<=i/\i<64*(L (k-1)).length
  ·have g:=ok.size;rw[ok.leaf i.toNat (by omega)];have:((i.toNat:Nat):Int)=i:=by omega
   simp[this,c]
  ·simp[hi]
 rw[f]at a
 clear h ok f;go_enter Tryz.func210,Tryz.ntmps210;go_wp2_with fail;refine a.mono ?_;rintro e w1 ⟨rfl,d⟩;go_wp2;go_ret;exact⟨rfl,d⟩
def s5(x b:Nat)(c:x<18446744073709551616)(d:b<64):bits BinOp.andNot IntKind.u64 (x:Int) (IntKind.u64.wrap ((2:Int)^b))=((gQ x b:Nat):Int):=by
 have f:2^b<2^64:=Jb (by decide) d;rw[kF b d,u64_andNot_nat x _ c f];congr 1;apply JC;intro j;have e:18446744073709551615-2^b=2^64-(2^b+1):=by omega
 rw[JU,mN,e,Nat.testBit_two_pow_sub_succ f,JV];cases g:x.testBit j
 ·rfl
 ·have:=om x j c g;by_cases a:b=j
  ·subst a;simp
  ·have:j≠b:=λe=>a e.symm;simp[*]
def rU(L:Lv)(l i:Nat):dp L (l+1) i=if(upd L l (eA (L l) i) l).getD (i/64) 0≠0 then upd L l (eA (L l) i)else dp (upd L l (eA (L l) i)) l (i/64):=rfl
def Dv(p k bl:Nat)(B:Nat->Nat)(L:Lv)(n:Int)(i:Nat)(m:List Int)(w:World)(h:ck w p k bl B L n)(ok:Ok k L m)(k3:k<=3)(hm:(i:Int)∈m)(hn:0<=n/\n<=1000000):
    Calls Tryz.prog 210 #[.pointer (some ⟨p,0,none⟩),.int .i64 i] w λe w'=>e=.returned (.bool true)/\ck w' p k bl B (dp L k i) (n-1)/\Kp (Fp p bl B k) w w':=by
 have k1:=ok.k1;have G:(L (k-1)).length<=4096:=ok.le k3 _ (by omega);have t:=vR p k bl B L n i w h k1 k3 G (ok.e9 _ (by omega));have hi:i<64^k:=by have:=ok.mem _ hm;omega
 have Z:bm (L (k-1)) i=true:=by rw[ok.leaf i hi];simpa using hm
 have hv:(decide (0<=(i:Int)/\(i:Int)<64*(L (k-1)).length)&&bm (L (k-1)) (i:Int).toNat)=true:=by have:=ok.size;simp[Z];omega
 simp only[hv]at t;have ac:=aa t;clear t hv Z;have H:=aa h;clear h;go_enter Tryz.func210,Tryz.ntmps210;go_wp2_with fail;refine(ac.out).mono ?_;rintro e U ⟨rfl,I⟩;have J:=H.out.old I;obtain⟨cap,c0⟩:=J.c0;have c1:=J.c1;have hp:p<U.heap.size:=J.lt (.inl rfl);have fz:∀o,U.frozen? ⟨p,o,none⟩=false:=by obtain⟨c,h⟩:=J.top;exact λo=>h.fz o
 have V:=J.qC ok.len (n-1);obtain⟨ad,ai⟩:=V.c0;have aj:=fz 1;have ao:=aa J;have ak:=aa V;have W:Kp (Fp p bl B k) w (U.setCell ⟨p,1,none⟩ (.int .i64 (n-1))):=(I.mono (λ_ _ h=>h.elim)).set (.inl (.inl rfl)) _;clear J V fz I H ac;go_wp2;go_loopw [1,5] (λs1 X wr=>∃(l:Nat) (b:Lv) (a:Nat) (q:Int),l<=k/\X=.int .i64 q/\q=(l:Int)-1/\s1=.int .i64 a/\a<64^l/\Hid (dp b l a=dp L k i)/\Hid (∀j,j<k->(b j).length=64^j)/\Hid (∀j,j<k->∀x∈b j,x<18446744073709551616)/\Hid (ck wr p k bl B b (n-1))/\Hid (Kp (Fp p bl B k) w wr)) (λ_ X _=>(intOf X+1).toNat)
 case atStart=>exact⟨k,L,i,_,Hm _,rfl,rfl,rfl,hi,rfl,ok.len,ok.e9,ak.out,W⟩
 case round=>
  obtain⟨l,b,a,q,hl,rfl,hq,rfl,P,K,hlen,g,hf,M⟩:=hrel;cases l with
  |zero=>
   obtain rfl:q= -1:=by omega
   clear hq;go_wp2;go_ret;exact⟨rfl,by rw[<-K.out];exact hf.out,M.out⟩
  |succ l=>
   obtain rfl:q=(l:Int):=by omega
   clear hq;have A:(b l).length=64^l:=hlen.out l (by omega);have hz:a/64<(b l).length:=by rw[A];rw[Ij]at P;omega
   obtain⟨af,d0⟩:=hf.out.c0;have dl:=hf.out.cl l (by omega);have dw:=hf.out.cw l (a/64) (by omega) hz;have fw:wr.frozen? ⟨B l,a/64,none⟩=false:=(hf.out.wd l (by omega)).fz _;have hx:=dQ (b l) (a/64) (g.out l (by omega));have al:(b l).length<=4096:=by rw[A];exact rT l (by omega)
   have ag:a<64*(b l).length:=by omega
   have D:=hf.out.CW hlen.out l (a/64) (gQ ((b l).getD (a/64) 0) (a%64)) (by omega);have E:=M.out.set (p:=⟨B l,a/64,none⟩) (.inl (.inr (.inr ⟨l,by omega,rfl⟩))) (.int .u64 (gQ ((b l).getD (a/64) 0) (a%64):Nat));have N:Hid (∀j,j<k->(upd b l (eA (b l) a) j).length=64^j):=λj Q=>by
    unfold upd;split
    ·rename_i e;subst e;unfold eA;rw[Hr];exact hlen.out j Q
    ·exact hlen.out j Q
   have O:Hid (∀j,j<k->∀x∈upd b l (eA (b l) a) j,x<18446744073709551616):=λj Q=>by
    unfold upd;split
    ·rename_i e;subst e;exact qq _ _ (g.out j Q)
    ·exact g.out j Q
   have u:(upd b l (eA (b l) a) l).getD (a/64) 0=gQ ((b l).getD (a/64) 0) (a%64):=by simp[upd,eA,List.getD,hz]
   have f:(upd b l (eA (b l) a) l).length=(b l).length:=by simp[upd,eA]
   have r:Hid ((if gQ ((b l).getD (a/64) 0) (a%64)≠0 then upd b l (eA (b l) a)else dp (upd b l (eA (b l) a)) l (a/64))=dp L k i):=by
    have:=K.out;rw[rU,u]at this;exact this
   have d:ck (wr.setCell ⟨B l,a/64,none⟩ (.int .u64 (gQ ((b l).getD (a/64) 0) (a%64):Nat))) p k bl B (upd b l (eA (b l) a)) (n-1):=D;obtain⟨ah,n0⟩:=d.c0;have nl:=d.cl l (by omega);have nw:=d.cw l (a/64) (by omega) (by rw[f];exact hz);rw[u]at nw
   rw[f]at nl
   have s:=aa d;clear D d;have an:=aa A;clear A;have R:=s5 _ (a%64) hx (Iw _ (by decide));have S:a/64<64^l:=by rw[Ij]at P;omega
   have C:=aa E;clear E;have T:=aa R;clear R;generalize (b l).getD (a/64) 0=x at*;generalize upd b l (eA (b l) a)=Ln at*;clear K hlen g hf M u f;go_wp2;go_region;rw[T.out];have v:=s.out;have F:=C.out;generalize gQ x (a%64)=y at*;generalize wr.setCell ⟨B l,a/64,none⟩ (.int .u64 (y:Nat))=wn at*;replace s:=aa v;replace C:=aa F;clear v F T;by_cases hy:y=0
   ·subst hy;have Y:(((0:Nat):Int) != 0)=false:=rfl;have z:Hid (dp Ln l (a/64)=dp L k i):=by have:=r.out;rw[Hk (by simp)]at this;exact this
    clear r;go_wp2;go_roundw
    case rel=>exact⟨l,_,a/64,_,by omega,rfl,rfl,by go_num,S,z,N,O,s.out.kp (Kp.refl ae _).drew (λ_ _ h=>h),C.out.drew⟩
    case measure=>simp[intOf]
   ·have Y:((y:Int) != 0)=true:=by simpa using hy
    have z:Hid (Ln=dp L k i):=by have:=r.out;rw[Hl hy]at this;exact this
    have aq:=aa hy;clear r hy;go_wp2;go_ret;exact⟨rfl,by rw[<-z.out];exact s.out.kp (Kp.refl ae _).drew (λ_ _ h=>h),C.out.drew⟩
end cq
end Go.Proofs.YtincjochpkdnfaaGreatDoor
