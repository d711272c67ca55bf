/- The example of layer 36, in plain Lean and walked; a port that nobody made. -/
import Derived.Test.YtincjochpkdnfaaGreatDoorV30
set_option linter.all false
set_option maxHeartbeats 2000000
set_option maxRecDepth 100000
namespace Go.Proofs.YtincjochpkdnfaaGreatDoor
section
open Go Go.RowKit Go.Shelf Go.Maps
def D4:e_:=⟨0,0,9,0,0,0,0⟩
def Av:ByteArray:=⟨#[98,111,100,121]⟩
def mH:List UInt8:=eP D4 (bl Av)
def la:List UInt8:=dw mH
def Cy:aS mH=0:=by decide+kernel
def Cz:eS qg (aL mH).n=some 1:=by decide+kernel
def EP:ef mH=0:=by decide+kernel
def ER:mH.length=32:=by decide+kernel
def CA:aS la=0:=by decide+kernel
def ES:(aL la).bG=8:=by decide+kernel
def CB:la.drop 28=[98,111,100,121]:=by decide+kernel
def Aw:la.length=32:=by decide+kernel
def ia:Po:=dZ og (.hp 0 [])
def ET:bP ia.s.g 1 32=0:=by decide+kernel
def CC:(bO (bQ ia.s 1 1 32).2).1[1]? =some (.int .i64 0):=by kernel_rfl
def CD:(bO (bQ ia.s 1 1 32).2).1[3]? =some (.int .u32 1):=by kernel_rfl
def wJ:og.Ok:=by
 refine⟨⟨by show _<=(2:Int)/\(2:Int)<=_;omega,by show _<=(1:Int)/\(1:Int)<=_;omega,by show _<=(1:Int)/\(1:Int)<=_;omega,by show _<=(2:Int)/\(2:Int)<=_;omega,by show _<=(9:Int)/\(9:Int)<=_;omega,by show 5000<hO;decide,by show _<=(0:Int)/\(0:Int)<=_;omega,by show 1000<hO;decide,by show 1000<hO;decide,by show 1000<hO;decide,λf hf=> ?_⟩,λr a=> ?_,by decide,by decide,by decide,by decide⟩
 ·have:f=⟨1,1,10,0,5000⟩\/f=⟨2,1,20,0,50⟩:=by simpa[og,cS,hA]using hf
  rcases this with rfl|rfl
  ·exact⟨by decide,by decide,by decide,by decide,by decide⟩
  ·exact⟨by decide,by decide,by decide,by decide,by decide⟩
 ·have:r=⟨(0,0),(0,0),0,65535,1⟩:=by simpa[og,qg]using a
  subst this;exact⟨⟨by decide,by decide,by decide⟩,⟨by decide,by decide,by decide⟩,by decide,by decide,by decide⟩
def yi:og.Good:=⟨by decide,by decide+kernel,.inl rfl,by decide⟩
def e7{w:World}{b:Nat}{cs:List Value}{t:TypeId}(h:ag w b cs t)(n sz:Nat)(a:cs.length=n*sz)(c:n<=1000000):Sl w (.slice (some ⟨b,0,none⟩) n n) n sz cs:=
 ⟨a,by omega,_,_,rfl,λi u hu=>⟨b,0,rfl,by rw[HR];exact h.cell i hu⟩⟩
def Gy(w:World)(b b2:Nat)(h:ag w b (hA.flatMap cv) 106)(a:ag w b2 (qg.flatMap cR) 108):
    Calls Tryz.prog 22 #[.agg (cx og (.slice (some ⟨b,0,none⟩) 2 2) (.slice (some ⟨b2,0,none⟩) 1 1)).toArray] w λe w'=>∃f,e=.returned (.tuple #[.pointer (some ⟨f.pb,0,none⟩),.int .i64 0])/\cW w' f ia/\(∀b,f.all b->w.heap.size<=b)/\w.heap.size<=f.lo/\Kp ae w w':=
 wa og wJ yi _ _ w (e7 h 2 5 rfl (by decide)) (e7 a 1 7 rfl (by decide)) (.hp 0 []) rfl trivial
    (λW _=>(zO cS _ W rfl (by decide) (by decide)).mono λe w' ⟨b,F,c,a,d,g⟩=>⟨qc b,F,c,⟨b,rfl,a⟩,d,g⟩)
def Dh:Po:= {ia with m:=(cZ ia.m 32).1,s:=(bQ ia.s 1 1 32).2,num:=1,wt:=λk=>if k=1 then la else ia.wt k}
def sE:(tx mH).size=32:=by rw[eb,ER]
def Gz{w:World}{f:dy}(h:cW w f ia)(a:dH w):
    Calls Tryz.prog 34 #[.pointer (some ⟨f.pb,0,none⟩),.string (tx mH)] w λe w'=>e=.returned (.tuple #[.int .u32 1,.int .i64 0])/\fZ w f Dh w':=by
 have:=rr h a (tx mH) (by rw[sE];decide) (by rw[cP];exact Cy) 1 (by rw[cP];exact Cz) (by rw[cP];exact EP) (Ae ia _ rfl) rfl (by show 0<_;decide) (by show 0+1<_;decide) (by rw[sE];exact ET);rw[sE,cP]at this
 exact this
def GA{w:World}{f:dy}(h:cW w f Dh)(a:od w f.sf.all):
    Calls Tryz.prog 35 #[.pointer (some ⟨f.pb,0,none⟩)] w λe w'=>e=.returned (.tuple #[.string (tx la),.int .i64 0])/\∃b:Po,b.num=1/\fZ w f b w':=by
 refine(tX h a 1 (by decide) CC CD (by decide+kernel)).mono ?_;rintro e w' ⟨rfl,c⟩;exact⟨rfl,_,rfl,c⟩
def oC{w:World}(a:dH w):0<w.heap.size:=Iy w ⟨0,0,none⟩ (a 0 (by decide))
def EU:(tx la).extract 28 (tx la).size=⟨#[98,111,100,121]⟩:=by
 apply j1;rw[fD,cP,CB,eb,Aw];rfl
def CE(w:World)(hT:dH w):Calls Tryz.prog 19 #[] w λe w'=>e=.returned (.bool true)/\Kp ae w w':=by
 have aj:=aa (λW=>Ap W);have t:=λW=>r0 D4 ⟨⟨by decide,by decide,by decide⟩,by decide,by decide,by decide,by decide⟩ (by decide) Av (by decide) W;have R:Hid (∀W,Calls Tryz.prog 27 #[.agg #[.int .u8 0,.int .u16 0,.int .u8 9,.int .u32 0,.int .u32 0,.int .u16 0,.int .u16 0],.string ⟨#[98,111,100,121]⟩] W λe w'=>e=.returned (.tuple #[.string (tx mH),.int .i64 0])/\Kp ae W w'):=aa t;have ht:=λW=>dC (tx la) (by rw[eb,Aw];decide) (by rw[cP];exact CA) W;rw[EU,cP]at ht
 have m:=aa ht;obtain⟨H,hH⟩:∃H,aL la=H:=⟨_,rfl⟩
 have S:=ES;rw[hH]at m S
 obtain⟨ds,id,bG,sr,d,sp,dp⟩:=H;simp only at S;subst S;simp only[cj]at m;have T:=aa hT;clear t ht hH hT;go_enter Tryz.func19,Tryz.ntmps19;go_wp2_with fail;refine(aj.out _).mono ?_;rintro e w1 ⟨b,b2,rfl,s,u,U,V,v⟩;have y:=aa v;have ag:=aa (Gy w1 b b2 s u);clear s u U V v;go_wp2_with fail;refine(ag.out).mono ?_;rintro e w2 ⟨f,rfl,z,A,X,B⟩;have k:=aa z;have C:=aa (λb s=>Hy y.out.size (A b s));have D:=aa (y.out.trans B);obtain⟨pb,n⟩:∃pb,f.pb=pb:=⟨_,rfl⟩
 have o:=aa n;rw[n];clear z A X B n ag;go_wp2_with fail;refine(R.out _).mono ?_;rintro e w3 ⟨rfl,p⟩;have j:=aa (D.out.trans p);have ha:=Gz (k.out.old p) (T.out.kp j.out (λx=>x));rw[o.out]at ha
 have ah:=aa ha;clear p ha k D;go_wp2_with fail;refine(ah.out).mono ?_;rintro e w4 ⟨rfl,f4,E,F,G,a,_,_⟩;have q:Hid (Kp ae w w4):=aa (j.out.then F (λi hi h=>by have:=C.out i h;omega));have c:∀b,f4.all b->w.heap.size<=b:=λb s=>by
  rcases G b s with e|e
  ·exact C.out b e
  ·have:=j.out.size;omega
 have I:=aa c;have Y:=GA E ⟨T.out.kp q.out (λx=>x),λe=>by have h1:=oC T.out;have h2:=c _ (.inr (.inr e));omega⟩;rw[a,o.out]at Y
 have ai:=aa Y;have J:Hid (f4.pb=pb):=aa (by rw[a,o.out]);clear E F G a c Y ah j;go_wp2_with fail;refine(ai.out).mono ?_;rintro e w5 ⟨rfl,p2,K,f5,L,M,Z,l,_,_⟩;have N:Hid (Kp ae w w5):=aa (q.out.then M (λi hi h=>by have:=I.out i h;omega));have O:=aa L;have P:Hid (f5.pb=pb):=aa (by rw[l,J.out]);have ac:=aa K;clear L M Z l K ai q;go_wp2_with fail;refine(m.out _).mono ?_;rintro e w6 ⟨rfl,Q⟩;have g:=Q.alloc (.cells #[.int .u8 ds,.int .u16 id,.int .u8 8,.int .u32 sr,.int .u32 d,.int .u16 sp,.int .u16 dp] 42);have ad:=aa (N.out.trans g);have r:=Gt (O.out.old g);rw[P.out,ac.out]at r
 have af:=aa r;clear Q g r O N;go_wp2_with fail;refine(af.out).mono ?_;rintro e w7 ⟨rfl,rfl⟩;go_wp2_with fail;go_ret;exact⟨rfl,ad.out⟩
end
end Go.Proofs.YtincjochpkdnfaaGreatDoor
