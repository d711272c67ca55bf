/- Datagrams' headers (layer 33) in plain Lean: the sum, what is put, taken, marked, hopped. Names no function of the program. -/
import Derived.Test.YtincjochpkdnfaaGreatDoorV2
import Derived.Test.YtincjochpkdnfaaGreatDoorV4
set_option linter.all false
namespace Go.Proofs.YtincjochpkdnfaaGreatDoor
section
def fc(a b:Nat):Nat:=(a+b)/65536+(a+b)%65536
def fL:Nat->List UInt8->Nat
 |n,[]=>n
 |n,[a]=>fc n (a.toNat*256)
 |n,a::b::r=>fL (fc n (a.toNat*256+b.toNat)) r
def gz(l:List UInt8):Nat:=65535-fL 0 l%65536
def l4{a b:Nat}(ha:a<=131071)(c:b<=131071):fc a b<=131071:=by unfold fc;omega
def qF:∀(l:List UInt8) (n:Nat),n<=131071->fL n l<=131071
 | [],n,h=>h
 | [a],n,h=>by unfold fL;have:=Ix a;exact l4 h (by omega)
 |a::b::r,n,h=>by unfold fL;have:=Ix a;have:=Ix b;exact qF r _ (l4 h (by omega))
def xg(l:List UInt8):gz l<65536:=by unfold gz;omega
def fe(l:List UInt8)(k:Nat):Nat:=fL 0 (l.take (2*k))
def ly:∀(l r:List UInt8) (n:Nat),l.length%2=0->fL n (l++r)=fL (fL n l) r
 | [],_,_,_=>rfl
 | [a],_,_,h=>by simp at h
 |a::b::l,r,n,h=>by
  show fL _ (l++r)=fL (fL _ l) r;exact ly l r _ (by simp at h ⊢;omega)
def s8{l:List UInt8}{k:Nat}(h:2*k+1<l.length):fe l (k+1)=fc (fe l k) ((l[2*k]'(by omega)).toNat*256+(l[2*k+1]).toNat):=by
 unfold fe;have e:l.take (2*(k+1))=l.take (2*k)++[l[2*k]'(by omega),l[2*k+1]]:=by
  have a:=HQ (i:=2*k+1) h;have b:=HQ (i:=2*k) (show 2*k<l.length by omega);rw[show 2*(k+1)=2*k+1+1 by omega,a,b,Ir];rfl
 rw[e,ly _ _ _ (by rw[HG];omega)];rfl
def s9{l:List UInt8}{k:Nat}(h:l.length=2*k+1):fL 0 l=fc (fe l k) ((l[2*k]'(by omega)).toNat*256):=by
 unfold fe;have e:l=l.take (2*k)++[l[2*k]'(by omega)]:=by
  conv=>lhs;rw[<-Jq (2*k) l]
  congr 1;rw[Ii (by omega:2*k<l.length),Jr (by omega)]
 conv=>lhs;rw[e]
 rw[ly _ _ _ (by rw[HG];omega)];rfl
def oY{l:List UInt8}{k:Nat}(h:l.length<=2*k):fL 0 l=fe l k:=by
 unfold fe;rw[IJ h]
def hf(l:List UInt8)(k:Nat):Nat:=(l.getD k 0).toNat*256+(l.getD (k+1) 0).toNat
def wd(l:List UInt8)(k:Nat):Nat:=hf l k*65536+hf l (k+2)
def gA(l:List UInt8)(k:Nat):hf l k<65536:=by
 unfold hf;have:=Ix (l.getD k 0);have:=Ix (l.getD (k+1) 0);omega
def uD(l:List UInt8)(k:Nat):wd l k<4294967296:=by
 unfold wd;have:=gA l k;have:=gA l (k+2);omega
def ih(h:e_)(n:Nat):List UInt8:=be 2 (17664+h.ds*4)++(be 2 (n+28)++(be 2 h.id++(be 2 0++be 2 (h.bG*256+17))))
def kb(h:e_):List UInt8:=be 2 (h.s/65536)++(be 2 (h.s%65536)++(be 2 (h.d/65536)++be 2 (h.d%65536)))
def eP(h:e_)(body:List UInt8):List UInt8:=
 ih h body.length++(be 2 (gz (ih h body.length++([0,0]++kb h)))++(kb h++(be 2 h.sp++(be 2 h.p++(be 2 (body.length+8)++(be 2 0++body))))))
def jq(l:List UInt8):Bool:=decide ((l.getD 0 0).toNat=69)&&(decide ((l.getD 1 0).toNat%4=0)&&(decide (hf l 2=l.length)&&(decide (hf l 6=0)&&(decide ((l.getD 9 0).toNat=17)&&(decide (hf l 24+20=l.length)&&decide (hf l 26=0))))))
def oZ(l:List UInt8):List UInt8:=l.take 10++([0,0]++(l.drop 12).take 8)
def aS(l:List UInt8):Int:=if l.length<28 then 2 else if jq l=false then 3 else if hf l 10=gz (oZ l)then 0 else 11
def aL(l:List UInt8):e_:=⟨(l.getD 1 0).toNat/4,hf l 4,(l.getD 8 0).toNat,wd l 12,wd l 16,hf l 20,hf l 22⟩
def qG(sum a is:Nat):Nat:=65535-fc (fc (65535-sum) (65535-a)) is%65536
def cutAt(l:List UInt8)(k:Nat)(x:Nat):List UInt8:=l.take k++(be 2 x++l.drop (k+2))
def iw(l:List UInt8)(k:Nat)(x:Nat):List UInt8:=cutAt (cutAt l k x) 10 (qG (hf l 10) (hf l k) x)
def ef(l:List UInt8):Int:=if aS l≠0 then aS l else if(l.getD 8 0).toNat<2 then 21 else 0
def dw(l:List UInt8):List UInt8:=iw l 8 (hf l 8-256)
def kc(l:List UInt8)(d:Nat):Int:=if 63<d then 6 else aS l
def uE(l:List UInt8)(d:Nat):List UInt8:=iw l 0 (17664+d*4)
def gB{l:List UInt8}{k:Nat}(h:k+2<=l.length)(x:Nat):(cutAt l k x).length=l.length:=by
 unfold cutAt;simp only[HK,HG,IU,rJ];omega
end
end Go.Proofs.YtincjochpkdnfaaGreatDoor
