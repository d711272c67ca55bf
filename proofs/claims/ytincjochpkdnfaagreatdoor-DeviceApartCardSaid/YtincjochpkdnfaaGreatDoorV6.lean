/- Walks of layer 31: masks and prefixes. -/
import Derived.Test.YtincjochpkdnfaaGreatDoorV2
import Derived.Test.YtincjochpkdnfaaGreatDoorV3
import Derived.Deep.RegionHeld3
import Derived.Deep.DeepCutAuto
set_option linter.all false
set_option maxHeartbeats 1000000
namespace Go.Proofs.YtincjochpkdnfaaGreatDoor
section
open Go.RowKit
def xe:∀k,k<=32->4294967295*2^(32-k)%4294967296=maskN k:=by decide
def xf(k:Nat)(a:k<=32):(4294967295*2^(32-k)%4294967296:Int)=(maskN k:Int):=by
 rw[<-xe k a];simp
def s6(k:Nat):maskN k<4294967296:=by
 unfold maskN;have:0<2^(32-k):=Jm (by decide);omega
def eo(b:Int):Nat:=(min (max b 0) 32).toNat
def qD{b:Int}(a:0<=b)(c:b<=32):eo b=b.toNat:=by unfold eo;omega
def uC(b:Int)(w:World)(c: -9223372036854775808<=b/\b<=9223372036854775807):Calls Tryz.prog 63 #[.int .i64 b] w λe w'=>e=.returned (.int .u32 (maskN (eo b)))/\w=w':=by
 by_cases d:b<0
 ·have a:Hid (eo b=0):=by unfold Hid eo;omega
  go_enter Tryz.func63,Tryz.ntmps63;go_wp2;all_goals
   first
    |omega
    |(go_ret;exact⟨dh (by rw[a.out];rfl),rfl⟩)
    |(go_ret;exact⟨dh (by rw[a.out,show min (max b 0) (32:Int)=0 by omega];rfl),rfl⟩)
 ·by_cases f:32<b
  ·have a:Hid (eo b=32):=by unfold Hid eo;omega
   go_enter Tryz.func63,Tryz.ntmps63;go_wp2;all_goals
    first
      |omega
      |(go_ret;exact⟨dh (by rw[a.out];rfl),rfl⟩)
      |(go_ret;exact⟨dh (by rw[a.out,show min (max b 0) (32:Int)=32 by omega];rfl),rfl⟩)
  ·obtain⟨k,rfl⟩:∃k:Nat,b=k:=⟨b.toNat,by omega⟩
   have a:Hid (eo k=k):=by unfold Hid eo;omega
   have hm:=aa (xf k (by omega));go_enter Tryz.func63,Tryz.ntmps63;go_wp2;all_goals
    first
      |omega
      |(go_ret;exact⟨dh (by rw[a.out];exact hm.out),rfl⟩)
      |(go_ret;exact⟨dh (by rw[a.out,show(32-min (k:Int) 32).toNat=32-k by omega];exact hm.out),rfl⟩)
def s7(a:Nat)(ha:a<4294967296){b:Int}(c:0<=b)(d:b<=32):bits .andNot .u32 (a:Int) (maskN (eo b):Int)=((a%2^(32-b.toNat):Nat):Int):=by
 rw[u32_andNot_nat a _ ha (s6 _),qD c d];congr 1;unfold maskN;have e:2^(32-b.toNat)<=2^32:=ID (by decide) (by omega);have f:0<2^(32-b.toNat):=Jm (by decide);rw[show 4294967295-(2^32-2^(32-b.toNat))=2^(32-b.toNat)-1 by omega];exact w9 a _
def qE(x:Nat)(a:x<4294967296){b:Int}(c:0<=b)(d:b<=32):bits .and .u32 (x:Int) (maskN (eo b):Int)=((x/2^(32-b.toNat)*2^(32-b.toNat):Nat):Int):=by
 rw[u32_and_nat x _ a (s6 _),qD c d];congr 1;exact w8 x _ a (by omega)
def yN(a n:Nat):((a:Int)%2^n==0)=decide (a%2^n=0):=by
 have h:(a:Int)%2^n=((a%2^n:Nat):Int):=by simp
 rw[h,Kh];simp only[Iq,HI];omega
def hr(a:Nat)(b:Int)(w:World)(ha:a<4294967296)(h: -9223372036854775808<=b/\b<=9223372036854775807):Calls Tryz.prog 39 #[.agg #[.int .u32 a,.int .i64 b]] w λe w'=>e=.returned (.bool (bs a b))/\Kp ae w w':=by
 have f:=aa (λW=>uC b W h);by_cases c:0<=b
 ·by_cases d:b<=32
  ·have g:=s7 a ha c d;have hf:Hid (bs a b=decide (a%2^(32-b.toNat)=0)):=by unfold Hid bs;simp[c,d]
   have i:=aa g;obtain⟨m,hm⟩:∃m:Int,(maskN (eo b):Int)=m:=⟨_,rfl⟩
   rw[hm]at f g
   clear hm;go_enter Tryz.func39,Tryz.ntmps39;go_wp2;go_quiet ((go_at_call 63;exact AM (f.out _)))
   go_wp2;go_ret;exact⟨dP (by rw[hf.out];exact yN a _),((Kp.refl _ _).alloc _).drewN _⟩
  ·have hf:Hid (bs a b=false):=by unfold Hid bs;simp[c,d]
   have hd:decide (b<=32)=false:=by simpa using d
   go_enter Tryz.func39,Tryz.ntmps39;go_wp2;go_quiet (fail)
   go_wp2;go_ret;exact⟨dP hf.out.symm,((Kp.refl _ _).alloc _).drewN _⟩
 ·have hf:Hid (bs a b=false):=by unfold Hid bs;simp[c]
  have hd:decide (0<=b)=false:=by simpa using c
  go_enter Tryz.func39,Tryz.ntmps39;go_wp2;go_quiet (fail)
  go_wp2;go_ret;exact⟨dP hf.out.symm,((Kp.refl _ _).alloc _).drewN _⟩
def yO(x a n:Nat)(h:a/2^n*2^n=a):((x:Int)/2^n*2^n==(a:Int))=decide (x/2^n=a/2^n):=by
 have e:(x:Int)/2^n*2^n=((x/2^n*2^n:Nat):Int):=by simp
 have hp:0<2^n:=Jm (by decide);rw[e,Kh];simp only[Iq,HI];constructor
 ·intro b;have c:x/2^n*2^n=a:=by omega
  rw[<-c,KO _ hp]
 ·intro b;rw[b,h]
def yP(a x:Nat)(b:Int)(w:World)(ha:a<4294967296)(t:x<4294967296)(q: -9223372036854775808<=b/\b<=9223372036854775807):Calls Tryz.prog 49 #[.agg #[.int .u32 a,.int .i64 b],.int .u32 x] w λe w'=>e=.returned (.bool (hasB a b x))/\Kp ae w w':=by
 have r:=aa (λW=>uC b W q);have l:=λW=>hr a b W ha q;obtain⟨n,c⟩:∃n,bs a b=n:=⟨_,rfl⟩
 simp only[c]at l;have s:=aa l;obtain⟨k,d⟩:∃k,k=w.alloc (.cells #[.int .u32 a,.int .i64 b] 72):=⟨_,rfl⟩
 have h:Kp ae w k:=by rw[d];exact(Kp.refl _ _).alloc _
 have f:ag k w.heap.size [.int .u32 a,.int .i64 b] 72:=by rw[d];exact ag.new _ _ _
 have i:=aa h;have j:=aa d;have d0:=f.ai;have d1:=f.aj;have y:=aa f;clear l h d f;cases n with
 |true=>
  have g:=cg.1 c;have o:=qE x t g.1 g.2.1;have hf:Hid (hasB a b x=decide (x/2^(32-b.toNat)=a/2^(32-b.toNat))):=by unfold Hid hasB;rw[c];rfl
  have hmul:Hid (a/2^(32-b.toNat)*2^(32-b.toNat)=a):=Nat.div_mul_cancel (Nat.dvd_of_mod_eq_zero g.2.2);obtain⟨m,hm⟩:∃m:Int,(maskN (eo b):Int)=m:=⟨_,rfl⟩
  rw[hm]at r o
  have HF:=hf;clear hm g c;go_enter Tryz.func49,Tryz.ntmps49;go_wp2;rw[<-j.out];go_region_held3 (λw'=>w'.cell? ⟨w.heap.size,0,none⟩=some (.int .u32 a)/\w'.cell? ⟨w.heap.size,1,none⟩=some (.int .i64 b)) (go_keep)
   (first
    |(go_at_call 39;refine(s.out _).mono ?_;rintro e w1 ⟨rfl,k1⟩;have u:=k1.cell (a:=⟨w.heap.size,0,none⟩) d0 id;have v:=k1.cell (a:=⟨w.heap.size,1,none⟩) d1 id;have p:=aa k1;clear k1)
    |(go_at_call 63;refine(r.out _).mono ?_;rintro e z ⟨rfl,rfl⟩))
  go_wp2;go_ret;exact⟨dP (by rw[hf.out];exact yO x a _ hmul.out),i.out.trans ((Kp.refl ae _).drew.trans p.out)⟩
 |false=>
  have hf:Hid (hasB a b x=false):=by unfold Hid hasB;rw[c];rfl
  clear c;go_enter Tryz.func49,Tryz.ntmps49;go_wp2;rw[<-j.out];first
   |go_region_with (first|(go_at_call 39;refine(s.out _).mono ?_;rintro e w1 ⟨rfl,k1⟩;have p:=aa k1;clear k1))
   |fail
  all_goals
   go_wp2;go_ret;exact⟨dP hf.out.symm,i.out.trans ((Kp.refl ae _).drew.trans p.out)⟩
def iN(a a':Nat)(b c:Int)(w:World)(ha:a<4294967296)(l:a'<4294967296)(v: -9223372036854775808<=b/\b<=9223372036854775807)(q: -9223372036854775808<=c/\c<=9223372036854775807):
    Calls Tryz.prog 91 #[.agg #[.int .u32 a,.int .i64 b],.agg #[.int .u32 a',.int .i64 c]] w λe w'=>e=.returned (.bool (gj a b a' c))/\Kp ae w w':=by
 have r:=λW=>hr a' c W l q;have s:=λW=>yP a a' b W ha l v;obtain⟨p,f⟩:∃p,bs a' c=p:=⟨_,rfl⟩
 obtain⟨t,g⟩:∃t,hasB a b a'=t:=⟨_,rfl⟩
 simp only[f]at r;simp only[g]at s;have u:=aa r;have x:=aa s;have hf:Hid (gj a b a' c=(p&&decide (b<=c)&&t)):=by unfold Hid gj;rw[f,g]
 obtain⟨m,d⟩:∃m,m=(w.alloc (.cells #[.int .u32 a,.int .i64 b] 72)).alloc (.cells #[.int .u32 a',.int .i64 c] 72):=⟨_,rfl⟩
 have n:Kp ae w m:=by rw[d];exact((Kp.refl _ _).alloc _).alloc _
 have h:ag m w.heap.size [.int .u32 a,.int .i64 b] 72:=by rw[d];exact(ag.new _ _ _).alloc _
 have i:ag m (w.heap.size+1) [.int .u32 a',.int .i64 c] 72:=by
  rw[d];have:=ag.new (w.alloc (.cells #[.int .u32 a,.int .i64 b] 72)) [.int .u32 a',.int .i64 c] 72;simpa using this
 have j:=aa n;have k:=aa d;have d0:=h.ai;have d1:=h.aj;have d2:=i.ai;have d3:=i.aj;clear r s f g n d h i;cases p with
 |false=>
  go_enter Tryz.func91,Tryz.ntmps91;go_upto_region 1 with(fail)
  rw[<-k.out];go_wp2_with fail;refine(u.out _).mono ?_;rintro e w1 ⟨rfl,k1⟩;have o:=aa k1;clear k1;go_wp2_with fail;go_ret;exact⟨dP (by rw[hf.out];rfl),j.out.trans o.out⟩
 |true=>
  by_cases hle:b<=c
  ·have hd:decide (b<=c)=true:=by simpa using hle
   go_enter Tryz.func91,Tryz.ntmps91;go_upto_region 1 with(fail)
   rw[<-k.out];go_wp2_with fail;refine(u.out _).mono ?_;rintro e w1 ⟨rfl,k1⟩;have y:=k1.cell d0 id;have z:=k1.cell d1 id;have A:=k1.cell d2 id;have B:=k1.cell d3 id;have o:=aa k1;clear k1;go_wp2_with fail;refine(x.out _).mono ?_;rintro e D ⟨rfl,k2⟩;have C:=aa k2;clear k2;go_wp2_with fail;go_ret;exact⟨dP (by rw[hf.out,hd];rfl),(j.out.trans o.out).trans C.out⟩
  ·have hd:decide (b<=c)=false:=by simpa using hle
   go_enter Tryz.func91,Tryz.ntmps91;go_upto_region 1 with(fail)
   rw[<-k.out];go_wp2_with fail;refine(u.out _).mono ?_;rintro e w1 ⟨rfl,k1⟩;have y:=k1.cell d0 id;have z:=k1.cell d1 id;have A:=k1.cell d2 id;have B:=k1.cell d3 id;have o:=aa k1;clear k1;go_wp2_with fail;go_ret;exact⟨dP (by rw[hf.out,hd];rfl),j.out.trans o.out⟩
end
end Go.Proofs.YtincjochpkdnfaaGreatDoor
