/- Devices: what DeviceKeeps and DeviceApart share (layer 37). -/
import Derived.Test.YtincjochpkdnfaaGreatDoorV33
import Derived.Test.YtincjochpkdnfaaGreatDoorV38
import Derived.Test.YtincjochpkdnfaaGreatDoorV39
import Derived.Deep.CutBlock
set_option linter.all false
namespace Go.Proofs.YtincjochpkdnfaaGreatDoor
section
open Go Go.RowKit Go.Shelf
def aX.h6{d:aX}{x:Nat}(h:d.all x):d.aJ x:=by obtain⟨m,hm,e⟩:=h;exact⟨m,hm,.inl e⟩
def AG{n:Nat}{b:List bX}{T:Tr}(h:cr (b.map bX.rt) T)(d:re n b)(f:∀r∈b,r.Ok)(a:Nat)(hu:fv (T.az a none)=true):dx (T.az a none)<n:=by
 obtain⟨e,he,i⟩:=vD h (λr j=>by
  obtain⟨g,c,rfl⟩:=Hw.1 j
  exact mB (d.fF g c) (f g c)) d.nd a hu
 obtain⟨g,c,rfl⟩:=Hw.1 he;obtain⟨_,_,_,k,l⟩:=kk (d.fF g c);rw[i];show g.x.toNat<n;omega
def Di(pc:jC):h_ 0 (dZ pc (dn pc.c),[],g_):=by
 refine⟨?_,Hm _,λx a=>(by cases a),λx a=> ?_⟩
 ·show cq (dn pc.c)<=0;unfold dn;split
  ·exact Hm _
  ·split<;>exact Hm _
 ·have:x∈List.replicate 32 0:=a;rw[(K4.1 this).2];decide
end
end Go.Proofs.YtincjochpkdnfaaGreatDoor
