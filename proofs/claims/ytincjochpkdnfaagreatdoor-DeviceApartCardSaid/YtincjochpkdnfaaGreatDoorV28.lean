/- A port in plain Lean (layer 36): what arrives, leaves, ticks. Names no function of the program. -/
import Derived.Test.YtincjochpkdnfaaGreatDoorV20
import Derived.Test.YtincjochpkdnfaaGreatDoorV24
set_option linter.all false
namespace Go.Proofs.YtincjochpkdnfaaGreatDoor
section
structure Po where
 s:Sh
 rl:List b5
 m:Mt
 y:Nat
 wt:Nat->List UInt8
 num:Nat
def cZ(m:Mt)(n:Nat):Mt×Nat:=if m.ax=0 then(m,1)else eT m n
def vo(x:List UInt8)(c y:Nat):List UInt8:=if c=2 then(if kc (dw x) y=0 then uE (dw x) y else[])else dw x
def dm(p:Po)(x:List UInt8):(Nat×Int)×Po:=
 if aS x≠0 then((0,aS x),p)
 else match eS p.rl (aL x).n with
 |none=>((0,7),p)
 |some fl=>
  if ef x≠0 then((0,ef x),p)
  else if(cZ p.m x.length).2=3 then((0,21),{p with m:=(cZ p.m x.length).1})
  else if bP p.s.g fl x.length=0 then((p.num+1,0),{p with m:=(cZ p.m x.length).1,s:=(bQ p.s fl (p.num+1) x.length).2,num:=p.num+1,wt:=λk=>if k=p.num+1 then vo x (cZ p.m x.length).2 p.y else p.wt k})
  else((0,bP p.s.g fl x.length),{p with m:=(cZ p.m x.length).1,s:=(bQ p.s fl (p.num+1) x.length).2})
def cm(p:Po):(List UInt8×Int)×Po:=
 if(aM p.s.bk).2=false then(([],18),p)
 else if p.s.tok<(aM p.s.bk).1.x.len then(([],19),p)
 else((p.wt (aM p.s.bk).1.x.id,0),{p with s:=(bO p.s).2,wt:=λk=>if k=(aM p.s.bk).1.x.id then[]else p.wt k})
def h4(p:Po)(t:Nat):Po:= {p with s:=(h9 p.s ⟨3,0,0,0,t⟩).2,m:=if p.m.ax=0 then p.m else eJ p.m t}
abbrev ct:=Po×List ByteArray×List Nat
def eV(rf:List Nat)(c:Int):List Nat:=if c=0 then rf else rf.set c.toNat (cH (rf.getD c.toNat 0) 1)
def ep(p:Po)(rf:List Nat):List ByteArray->Po×List Nat
 | []=>(p,rf)
 |x::r=>ep (dm p (bl x)).2 (eV rf (dm p (bl x)).1.2) r
def cF:Nat->Po->List ByteArray×Po
 |0,p=>([],p)
 |n+1,p=>if(cm p).1.2=0 then(tx (cm p).1.1::(cF n (cm p).2).1,(cF n (cm p).2).2)else([],(cm p).2)
def fX(batch:Nat)(l:ct):List ByteArray×ct:=
 let a:=ep l.1 l.2.2 (l.2.1.take batch)
 let b:=cF batch a.1
 (b.1,(b.2,l.2.1.drop batch,a.2))
def jF{p:Po}{rf:List Nat}{x:ByteArray}{r:List ByteArray}:ep p rf (x::r)=ep (dm p (bl x)).2 (eV rf (dm p (bl x)).1.2) r:=rfl
def kQ{n:Nat}{p:Po}(h:(cm p).1.2=0):cF (n+1) p=(tx (cm p).1.1::(cF n (cm p).2).1,(cF n (cm p).2).2):=by
 conv=>lhs;unfold cF
 rw[Hl h]
def km{n:Nat}{p:Po}(h:¬(cm p).1.2=0):cF (n+1) p=([],(cm p).2):=by
 conv=>lhs;unfold cF
 rw[Hk h]
def ri(n:Nat):∀p,(cF n p).1.length<=n:=by
 induction n with
 |zero=>intro p;exact Hm _
 |succ n a=>
  intro p;by_cases h:(cm p).1.2=0
  ·rw[kQ h,Hs];have:=a (cm p).2;omega
  ·rw[km h];exact Hv _
def pS(rf:List Nat)(c:Int):(eV rf c).length=rf.length:=by
 unfold eV;split
 ·rfl
 ·rw[Hr]
def tV:∀(l:List ByteArray) (p:Po) (rf:List Nat),(ep p rf l).2.length=rf.length
 | [],_,_=>rfl
 |_::r,_,_=>by rw[jF,tV r,pS]
end
end Go.Proofs.YtincjochpkdnfaaGreatDoor
