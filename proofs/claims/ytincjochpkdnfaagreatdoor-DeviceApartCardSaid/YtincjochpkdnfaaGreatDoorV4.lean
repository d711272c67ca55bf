/- A header in plain Lean, and as cells. -/
import Derived.Test.YtincjochpkdnfaaGreatDoorV0
set_option linter.all false
namespace Go.Proofs.YtincjochpkdnfaaGreatDoor
section
open Go.RowKit
structure e_ where
 ds:Nat
 id:Nat
 bG:Nat
 s:Nat
 d:Nat
 sp:Nat
 p:Nat
instance:Inhabited e_:=⟨⟨0,0,0,0,0,0,0⟩⟩
def cj(h:e_):List Value:=[.int .u8 h.ds,.int .u16 h.id,.int .u8 h.bG,.int .u32 h.s,.int .u32 h.d,.int .u16 h.sp,.int .u16 h.p]
structure e_.Ok (h:e_):Prop where
 s:h.s<4294967296
 d:h.d<4294967296
 p:h.p<65536
structure e_.Fit (h:e_):Prop where
 ok:h.Ok
 ds:h.ds<256
 id:h.id<65536
 bG:h.bG<256
 sp:h.sp<65536
end
section
structure Mt where
 ax:Nat
 bD:Nat
 aJ:Nat
 a:Nat
 b:Nat
def Mt.zero:Mt:=⟨0,0,0,0,0⟩
structure Mt.Lt (m:Mt):Prop where
 ax:m.ax<18446744073709551616
 bD:m.bD<18446744073709551616
 aJ:m.aJ<18446744073709551616
 a:m.a<18446744073709551616
 b:m.b<18446744073709551616
def iv(m:Mt):Nat:=if m.ax=0 then 27 else if(m.bD=0/\m.aJ=0)\/m.bD<m.a\/m.aJ<m.b then 28 else 0
def eT(m:Mt)(n:Nat):Mt×Nat:=if n<=m.a then({m with a:=m.a-n},1)else if n<=m.b then({m with b:=m.b-n},2)else(m,3)
def eJ(m:Mt)(t:Nat):Mt:=if m.ax*t<=m.bD-m.a then {m with a:=m.a+m.ax*t}else {m with a:=m.bD,b:=min (m.b+(m.ax*t-(m.bD-m.a))) m.aJ}
structure Mt.Ok (m:Mt):Prop where
 lt:m.Lt
 dr:0<m.ax->iv m=0
def de{m:Mt}:iv m=0↔0<m.ax/\(0<m.bD\/0<m.aJ)/\m.a<=m.bD/\m.b<=m.aJ:=by
 unfold iv;split
 ·constructor<;>omega
 ·split
  ·constructor<;>omega
  ·constructor<;>omega
def xd{m:Mt}(h:m.Lt)(d:iv m=0)(n:Nat):(eT m n).1.Lt/\iv (eT m n).1=0:=by
 have c:=de.1 d;unfold eT;split
 ·exact⟨⟨h.ax,h.bD,h.aJ,by show m.a-n<_;have:=h.a;omega,h.b⟩,de.2 ⟨c.1,c.2.1,by show m.a-n<=m.bD;omega,c.2.2.2⟩⟩
 ·split
  ·exact⟨⟨h.ax,h.bD,h.aJ,h.a,by show m.b-n<_;have:=h.b;omega⟩,de.2 ⟨c.1,c.2.1,c.2.2.1,by show m.b-n<=m.aJ;omega⟩⟩
  ·exact⟨h,d⟩
def oX{m:Mt}(h:m.Lt)(d:iv m=0)(t:Nat):(eJ m t).Lt/\iv (eJ m t)=0:=by
 have c:=de.1 d;have:=h.bD;have:=h.aJ;unfold eJ;split
 ·exact⟨⟨h.ax,h.bD,h.aJ,by show m.a+_<_;omega,h.b⟩,de.2 ⟨c.1,c.2.1,by show m.a+_<=m.bD;omega,c.2.2.2⟩⟩
 ·exact⟨⟨h.ax,h.bD,h.aJ,h.bD,by show min _ _<_;omega⟩,de.2 ⟨c.1,c.2.1,Hm _,Nat.min_le_right _ _⟩⟩
end
end Go.Proofs.YtincjochpkdnfaaGreatDoor
