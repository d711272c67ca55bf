/- A port's Stats (layer 36). -/
import Derived.Test.YtincjochpkdnfaaGreatDoorV30
set_option linter.all false
set_option maxHeartbeats 2000000
set_option maxRecDepth 100000
namespace Go.Proofs.YtincjochpkdnfaaGreatDoor
section
open Go Go.RowKit Go.Shelf Go.Maps
def EW(s:Sh)(h:s.ref.length=32)(W:World):(Instr.field 150 (.agg (gZ 4 0 0 0 0 0 (bZ s)).toArray) 4).run Tryz.prog W=.ok (.agg (bZ s).toArray) W:=by
 unfold bZ;obtain⟨a0,a1,a2,a3,a4,a5,a6,a7,m,a9,a,b,a12,c,d,f,g,i,j,k,a20,a21,a22,a23,a24,a25,a26,a27,a28,l,a30,a31,e⟩:=ox s.ref h;rw[e];kernel_rfl
def t_:(#[.int .u64 0,.int .u64 0,.int .i64 0,.int .u64 0,.int .u64 0,.int .u64 0,.int .u64 0,.int .u64 0,.int .u64 0,.int .u64 0,.int .u64 0,.int .u64 0,.int .u64 0,.int .u64 0,.int .u64 0,.int .u64 0,.int .u64 0,.int .u64 0,.int .u64 0,.int .u64 0,.int .u64 0,.int .u64 0,.int .u64 0,.int .u64 0,.int .u64 0,.int .u64 0,.int .u64 0,.int .u64 0,.int .u64 0,.int .u64 0,.int .u64 0,.int .u64 0,.int .u64 0,.int .u64 0,.int .u64 0,.int .u64 0]:Array Value)=gF.toArray:=rfl
def vz:(⟨4,0,0,0,0⟩:kW).ok:=
 ⟨⟨by show(-9223372036854775808:Int)<=4;decide,by show(4:Int)<=9223372036854775807;decide⟩,by show 0<4294967296;decide,by show 0<4294967296;decide,by show 0<18446744073709551616;decide,by show 0<18446744073709551616;decide⟩
def CF{w:World}{f:dy}{p:Po}(h:cW w f p)(X:cq p.s.bk<9223372036854775807):
    Calls Tryz.prog 32 #[.pointer (some ⟨f.pb,0,none⟩)] w λe w'=>e=.returned (.agg (bZ p.s).toArray)/\fZ w f p w':=by
 have hlen:=h.sh.ok.len;obtain⟨d,a⟩:=pU hlen;have HF:=aa (λW=>EW p.s hlen W);have r:=aa (λW (k:et W f.sf p.s)=>jG ⟨4,0,0,0,0⟩ (.inr (.inr (.inr rfl))) k (λe=>absurd (show(4:Int)=2 from e) (by decide)) vz X);have t:h9 p.s ⟨4,0,0,0,0⟩=(gZ 4 0 0 0 0 0 (bZ p.s),p.s):=rfl;rw[t]at r
 obtain⟨rc,u⟩:∃rc,gZ 4 0 0 0 0 0 (bZ p.s)=rc:=⟨_,rfl⟩
 obtain⟨F,v⟩:∃F,bZ p.s=F:=⟨_,rfl⟩
 rw[u]at r HF
 rw[v]at HF d a ⊢
 have Y:=aa h;have G:=aa d;have y:=aa a;have g:=aa (ag.new w gF 56);have c:=aa ((Kp.refl ae w).alloc (.cells gF.toArray 56));have c0:=h.top.ai;have H:=aa (λb (I:f.all b)=>h.lt I);have J:=aa h.hi;obtain⟨pb,j⟩:∃pb,f.pb=pb:=⟨_,rfl⟩
 rw[j]at c0 ⊢
 have Z:=aa j;simp only[p8]at r;refine al ?_;intro PP ac;clear h j t u v hlen d a;go_enter Tryz.func32,Tryz.ntmps32;go_upto_region 1 with fail;rw[t_];obtain⟨K,l⟩:∃K,w.alloc (.cells gF.toArray 56)=K:=⟨_,rfl⟩
 rw[l]at g c ⊢
 have c0:=c.out.cell c0 (λx=>x);have z:Hid (K.heap.size=w.heap.size+1):=aa (by rw[<-l,HB]);clear l;go_wp2_with fail;have m:=Y.out.old c.out;refine(r.out _ m.sh).mono ?_;rintro e w6 ⟨rfl,A⟩;obtain⟨U,B,n,o,L⟩:=m.mF A;have M:=aa B;have N:=aa n;have O:=aa o;have q:¬f.all w.heap.size:=λe=>by have:=H.out _ e;omega
 have P:=aa (g.out.kp n q)
 have Q:Hid (¬({f with sf:=U}:dy).all w.heap.size):=aa (λe=>by
  rcases o _ e with e|e
  ·exact q e
  ·rw[z.out]at e;omega)
 have ad:=HF.out;clear A B n o L c0 r g q m;go_wp2_with(refine aV rfl 56 (.tmp 2) (.tmp 19) rfl P.out F (by rw[G.out];rfl) rfl rfl (by rw[G.out];exact kS) y.out ?_;intro W7 C D;have R:=aa C;have E:=aa D;clear C D);have S:=M.out.kp E.out (λb I e=>Q.out (by rw[<-(show b=w.heap.size from e)];exact I)) (λb h1 V e=>by have e:b=w.heap.size:=e;have V:b<f.hi:=V;have:=J.out;omega);have T:Kp f.all w W7:=by
  have k1:Kp f.all w w6:=(c.out.mono (λ_ _ x=>x.elim)).trans N.out;exact k1.then E.out (λi hi e=>by have e:i=w.heap.size:=e;omega)
 exact dk (by exact rfl) R.out _ Tryz.underlying56 rfl (by rw[G.out];exact kS) (by exact rfl) (ac.out _ _ ⟨rfl,{f with sf:=U},S,T,λx hx=>by
  rcases O.out x hx with e|e
  ·exact .inl e
  ·exact .inr (by rw[z.out]at e;omega),rfl,rfl,rfl⟩)
end
end Go.Proofs.YtincjochpkdnfaaGreatDoor
