/- Bytes made texts. Names no function of the program. -/
import Derived.Test.YtincjochpkdnfaaGreatDoorV1
import Derived.Test.YtincjochpkdnfaaGreatDoorV5
import Derived.Test.YtincjochpkdnfaaGreatDoorV7
import Derived.Deep.Cut
import Derived.Conc.LoneSelect
set_option linter.all false
set_option maxHeartbeats 4000000
set_option maxRecDepth 100000
namespace Go.Proofs.YtincjochpkdnfaaGreatDoor
section
open Go.RowKit
def kY(l:List UInt8):List Value:=l.map λc=>.int .u8 (c.toNat:Int)
def xx(l:List UInt8):strOfNums (l.map λc=>(c.toNat:Int))=tx l:=by
 apply j1;rw[cP];show(strOfNums _).data.toList=l;rw[strOfNums_data,I6]
 conv=>rhs;rw[<-List.map_id l]
 apply Jc;intro c _;simp
def dB{P:Program}(a b:ByteArray)(h:a.size+b.size<=1000000)(W:World):(Op.stringOp .add a b).run P W=.ok (.string (a++b)) W:=run_string_add_sum W a b (by omega)
def dq(a b:ByteArray):bl (a++b)=bl a++bl b:=by simp[bl]
def y5(n:Nat):((UInt8.ofNat (n%256)).toNat:Int)=(n:Int)%256:=by simp
def xy{a b:ByteArray}(h:a=b):Ending.returned (.string a)=.returned (.string b):=by rw[h]
end
section
open Go.RowKit Go.Shelf
def GU:gL Tryz.prog 192 5 (.int .u8 0) 1 1:=⟨Tryz.underlying192,by kernel_rfl,rfl,by decide⟩
def fQ(w:World)(b o:Nat)(u:Value):Kp (λk=>k=b) w (w.setCell ⟨b,o,none⟩ u):=(Kp.refl (λk=>k=b) w).set (p:=⟨b,o,none⟩) (.inl rfl) u
def DN(x:Nat)(a:x<4294967296):bits BinOp.and IntKind.u32 (x:Int) 65535=((x%65536:Nat):Int):=by
 have b:x%65536=x&&&65535:=(KM x 16).symm;rw[b];exact u32_and_nat x 65535 a (by decide)
def rX(x:Nat)(a:x<65536):bits BinOp.xor IntKind.u16 IntKind.u16.max (x:Int)=((65535-x:Nat):Int):=by
 have e:IntKind.u16.max=((65535:Nat):Int):=by decide
 rw[e,u16_xor_nat 65535 x (by decide) a];congr 1;have h:=BitVec.toNat_not (x:=BitVec.ofNat 16 x);rw[BitVec.not_def,BitVec.toNat_xor,Kj,BitVec.toNat_allOnes,IH a]at h
 simpa using h
def xz(a b:Nat):((fc a b:Nat):Int)=((a:Int)+b)/65536+((a:Int)+b)%65536:=by unfold fc;omega
def uN(a b:Nat)(h:a+b<4294967296)(w:World):Calls Tryz.prog 75 #[.int .u32 a,.int .u32 b] w λe w'=>e=.returned (.int .u32 (fc a b:Nat))/\w=w':=by
 rw[xz];have ha:=DN (a+b) h;rw[show((a+b:Nat):Int)=(a:Int)+b by omega]at ha
 have c:((a:Int)+b)/65536+(((a+b)%65536:Nat):Int)=((a:Int)+b)/65536+((a:Int)+b)%65536:=by omega
 go_enter Tryz.func75,Tryz.ntmps75;go_wp2;go_ret;exact⟨rfl,rfl⟩
def gd(s:ByteArray)(k:Nat)(h:k<s.size):(bl s).getD k 0=s[k]:=by
 rw[Hx,Hn (by rw[aG];exact h)];rfl
def Bf(s:ByteArray)(k:Nat)(h:k+1<s.size):((hf (bl s) k:Nat):Int)=(s[k].toNat:Int)*256+(s[k+1].toNat:Int):=by
 unfold hf;rw[gd s k (by omega),gd s (k+1) h];simp
def fR(s:ByteArray)(k:Nat)(h:k+1<s.size)(c:s.size<=1000000)(w:World):Calls Tryz.prog 45 #[.string s,.int .i64 k] w λe w'=>e=.returned (.int .u16 (hf (bl s) k:Nat))/\Kp ae w w':=by
 rw[Bf s k h];have d:(k:Int)+1<s.size:=by omega
 have f:k<s.size:=by omega
 have g:=Ix s[k];have i:=Ix s[k+1];have j:IntKind.u16.wrap ((s[k].toNat:Nat):Int)=s[k].toNat:=K0 _ (by omega);have l:IntKind.u16.wrap (((s[k].toNat:Nat):Int)*256)=s[k].toNat*256:=K0 _ (by omega);have m:IntKind.u16.wrap ((s[k+1].toNat:Nat):Int)=s[k+1].toNat:=K0 _ (by omega);have n:IntKind.i64.wrap ((k:Int)+1)=(k:Int)+1:=I4 _ (by omega);have o:((k:Int)+1).toNat=k+1:=by omega
 go_enter Tryz.func45,Tryz.ntmps45;go_wp2_with fail;refine ar 10 (by kernel_rfl) (λ_ _ _ _ _ h=>h) ?_;simp only[aO]
 repeat((first
    |refine ay (by rfl) (by as_aux_lemma=>intro W a;go_simp;exact rfl) ?_
    |refine ah (by rfl) ?_);simp only[Act.put,aH])
 intro W a;have b:=aa a;clear a;go_wp2;go_ret;exact⟨rfl,b.out⟩
def y6(s:ByteArray)(k:Nat)(h:k+3<s.size)(j:s.size<=1000000)(w:World):Calls Tryz.prog 47 #[.string s,.int .i64 k] w λe w'=>e=.returned (.int .u32 (wd (bl s) k:Nat))/\Kp ae w w':=by
 have H1:=aa (λW=>fR s k (by omega) j W);have f:=λW=>fR s (k+2) (by omega) j W;rw[show((k+2:Nat):Int)=(k:Int)+2 by omega]at f
 have l:=aa f;have n:=gA (bl s) k;have l2:=gA (bl s) (k+2);have e:((wd (bl s) k:Nat):Int)=((hf (bl s) k:Nat):Int)*65536+((hf (bl s) (k+2):Nat):Int):=by unfold wd;omega
 rw[e];obtain⟨a,ha⟩:∃a,hf (bl s) k=a:=⟨_,rfl⟩
 obtain⟨b,m⟩:∃b,hf (bl s) (k+2)=b:=⟨_,rfl⟩
 rw[ha]at H1 n ⊢
 rw[m]at l l2 ⊢
 clear e ha m f;go_enter Tryz.func47,Tryz.ntmps47;go_wp2_with fail;refine(H1.out _).mono ?_;rintro e w1 ⟨rfl,c⟩;have g:=aa c;clear c;go_wp2_with fail;refine(l.out _).mono ?_;rintro e o ⟨rfl,d⟩;have i:=aa (g.out.trans d);clear d;go_wp2;go_ret;exact⟨rfl,i.out⟩
def xA(l:List UInt8)(k:Nat):fe l k<=131071:=qF _ _ (by omega)
def uO(s:ByteArray)(y:s.size<=1000000)(w:World):Calls Tryz.prog 46 #[.string s] w λe w'=>e=.returned (.int .u16 (gz (bl s):Nat))/\w=w':=by
 have q:=aa (λa b h W=>uN a b h W);go_enter Tryz.func46,Tryz.ntmps46;go_wp2;go_loop [3,4] (λt i0=>∃k:Nat,i0=.int .i64 (2*(k:Int))/\2*k<=s.size+1/\t=.int .u32 (fe (bl s) k:Nat)) (λ_ i0=>s.size+2-(intOf i0).toNat)
 case atStart=>exact⟨0,rfl,by omega,rfl⟩
 case round=>
  obtain⟨k,rfl,z,rfl⟩:=hrel;have hle:=xA (bl s) k;by_cases r:2*k<s.size
  ·have A:=Ix s[2*k];by_cases u:2*k+1<s.size
   ·have hd:=Ix s[2*k+1];have c:=s8 (l:=bl s) (k:=k) (by rw[aG];omega);rw[rH s (2*k) r,rH s (2*k+1) u]at c
    have j:=aa c;obtain⟨n,d⟩:∃n,fe (bl s) k=n:=⟨_,rfl⟩
    obtain⟨m,hm⟩:∃m,fe (bl s) (k+1)=m:=⟨_,rfl⟩
    rw[d,hm]at j
    rw[d]at hle ⊢
    have o:=aa hm;have g:=λW=>q.out n (s[2*k].toNat*256+s[2*k+1].toNat) (by omega) W;rw[<-j.out,show((s[2*k].toNat*256+s[2*k+1].toNat:Nat):Int)=(s[2*k].toNat:Int)*256+(s[2*k+1].toNat:Int) by omega]at g
    have i:=aa g;clear c d hm g j;go_wp2_with fail;refine(i.out _).mono ?_;rintro e w' ⟨rfl,rfl⟩;go_wp2_with fail;go_round
    case rel=>exact⟨k+1,by go_num,by omega,by rw[o.out]⟩
    case measure=>simp[intOf];omega
   ·have c:=s9 (l:=bl s) (k:=k) (by rw[aG];omega);rw[oY (l:=bl s) (k:=k+1) (by rw[aG];omega),rH s (2*k) r]at c
    obtain⟨n,d⟩:∃n,fe (bl s) k=n:=⟨_,rfl⟩
    obtain⟨m,hm⟩:∃m,fe (bl s) (k+1)=m:=⟨_,rfl⟩
    rw[d,hm]at c
    rw[d]at hle ⊢
    have o:=aa hm;have g:=λW=>q.out n (s[2*k].toNat*256) (by omega) W;rw[<-c,show((s[2*k].toNat*256:Nat):Int)=(s[2*k].toNat:Int)*256 by omega]at g
    have i:=aa g;clear c d hm g;go_wp2_with fail;refine(i.out _).mono ?_;rintro e w' ⟨rfl,rfl⟩;go_wp2_with fail;go_round
    case rel=>exact⟨k+1,by go_num,by omega,by rw[o.out]⟩
    case measure=>simp[intOf];omega
  ·have f:=oY (l:=bl s) (k:=k) (by rw[aG];omega);have p:gz (bl s)=65535-fe (bl s) k%65536:=by unfold gz;rw[f]
   obtain⟨n,d⟩:∃n,fe (bl s) k=n:=⟨_,rfl⟩
   rw[d]at p hle ⊢
   have v:=aa p;have hw:IntKind.u16.wrap (n:Int)=((n%65536:Nat):Int):=by rw[K1];omega
   have x:=rX (n%65536) (by omega);rw[<-hw]at x
   clear f d p hw;go_wp2;go_ret;rw[v.out];exact⟨dh rfl,rfl⟩
def FC(a b c:Nat)(ha:a<65536)(m:b<65536)(r:c<65536)(w:World):Calls Tryz.prog 115 #[.int .u16 a,.int .u16 b,.int .u16 c] w λe w'=>e=.returned (.int .u16 (qG a b c:Nat))/\w=w':=by
 have n:=rX a ha;have x2:=rX b m;have k:=l4 (a:=65535-a) (b:=65535-b) (by omega) (by omega);have g:=l4 (a:=fc (65535-a) (65535-b)) (b:=c) (by omega) (by omega);have d:=aa (λW=>uN (65535-a) (65535-b) (by omega) W);have f:=aa (λW=>uN (fc (65535-a) (65535-b)) c (by omega) W);unfold qG;obtain⟨p,hp⟩:∃p,fc (65535-a) (65535-b)=p:=⟨_,rfl⟩
 rw[hp]at k g d f ⊢
 obtain⟨q,l⟩:∃q,fc p c=q:=⟨_,rfl⟩
 rw[l]at g f ⊢
 obtain⟨a',h⟩:∃a',65535-a=a':=⟨_,rfl⟩
 obtain⟨i,j⟩:∃i,65535-b=i:=⟨_,rfl⟩
 rw[h]at n d
 rw[j]at x2 d
 have s:a'<=65535:=by omega
 have l2:i<=65535:=by omega
 have o:=rX (q%65536) (by omega);have hw:IntKind.u16.wrap (q:Int)=((q%65536:Nat):Int):=by rw[K1];omega
 rw[<-hw]at o
 have m1:(a':Int)%4294967296=a':=by omega
 have m2:(i:Int)%4294967296=i:=by omega
 have m3:(c:Int)%4294967296=c:=by omega
 clear hp l h j hw;go_enter Tryz.func115,Tryz.ntmps115;go_wp2_with fail;refine(d.out _).mono ?_;rintro e w' ⟨rfl,rfl⟩;go_wp2_with fail;refine(f.out _).mono ?_;rintro e w' ⟨rfl,rfl⟩;go_wp2;go_ret;exact⟨dh rfl,rfl⟩
def ke(l:List Nat):List Value:=l.map λ(n:Nat)=>.int .u16 (n:Int)
def dT(l:List Nat):List UInt8:=l.flatMap (be 2)
def y7(l:List Nat)(n:Nat):dT (l++[n])=dT l++be 2 n:=by simp[dT]
def rY(l:List Nat):(dT l).length=2*l.length:=by
 induction l with
 |nil=>rfl
 |cons a r b=>show(be 2 a++dT r).length=_;rw[HK,rJ,b,Hs];omega
def y8(a b:List UInt8):kY (a++b)=kY a++kY b:=by simp[kY]
def y9(a:List UInt8):(kY a).length=a.length:=by simp[kY]
def uP(n:Nat)(h:n<65536):kY (be 2 n)=[.int .u8 ((n:Int)/256),.int .u8 ((n:Int)%256)]:=by
 simp only[be,kY,Im,HE,HA,Ik,y5,IT];have a:((n/256:Nat):Int)%256=(n:Int)/256:=by omega
 rw[a]
def xB{w:World}{base n:Nat}{v:Value}{l:List UInt8}(h:w.ownsRow base 5 1 v n (kY l))(j:0<n):
    (convert 192 9 v).run Tryz.prog w=.ok (.string (tx l)) w:=by
 have a:l.length=n:=by have:=h.1;rw[y9,Iu]at this;exact this
 rcases h.2 with⟨rfl,rfl⟩|⟨g,cap,cur,rfl,k,d,m,hm,o,ht⟩
 ·omega
 ·have e:=run_convert_bytes_arg (P:=Tryz.prog) w 192 5 Tryz.underlying192 Tryz.underlying5 g 0 n cap (l.map λc=>(c.toNat:Int)) (by simp[a]) (λi hi=>by
   have b:(kY l)[i]? =some (.int .u8 (l[i]'(by omega)).toNat):=by simp[kY,a▸hi]
   rw[<-ht,JK,Hl (by omega)]at b
   have f:w.cell? ⟨g,0+i,none⟩=some (.int .u8 (l[i]'(by omega)).toNat):=by
    simp only[World.cell?,d,HR];simpa using b
   rw[f]
   simp[List.getD,a▸hi]) 9 Tryz.underlying9
  rw[e,xx]
def o8(l:List Nat)(G:∀x∈l,x<65536)(N:0<l.length)(O:l.length<=1000)(v:Value)(w:World)(h:Sl w v l.length 1 (ke l)):
    Calls Tryz.prog 52 #[v] w λe w'=>e=.returned (.string (tx (dT l)))/\Kp ae w w':=by
 have H:=aa h;obtain⟨t,cap,rfl⟩:∃t cap,v=.slice t l.length cap:=by obtain⟨t,cap,rfl,_⟩:=h.is;exact⟨_,_,rfl⟩
 have q:Hid (w.ownsRow w.heap.size 5 1 (.slice none 0 0) 0 (kY (dT []))):=aa ⟨rfl,.inl ⟨rfl,rfl⟩⟩;clear h;go_enter Tryz.func52,Tryz.ntmps52;go_wp2_with fail;go_loopw [3,8] (λv0 i0 wr=>∃k:Nat,i0=.int .i64 k/\k<=l.length/\Hid (wr.ownsRow w.heap.size 5 1 v0 (2*k) (kY (dT (l.take k))))/\Hid (Kp ae w wr)) (λ_ i0 _=>l.length-(intOf i0).toNat)
 case atStart=>exact⟨0,rfl,by omega,by rw[Je];exact q,aa (Kp.refl _ _)⟩
 case round=>
  clear q;obtain⟨k,rfl,P,p,r⟩:=hrel;obtain⟨Q,xc,rfl⟩:=aN p.out;by_cases s:k<l.length
  ·have I:(k:Int)<l.length:=by omega
   obtain⟨n,o⟩:∃n,l[k]=n:=⟨_,rfl⟩
   have y:n<65536:=by rw[<-o];exact G _ (Ht _)
   have d:(ke l)[k]? =some (.int .u16 n):=by simp[ke,s,o]
   obtain⟨J,D,z,E⟩:=(H.out.old r.out).is;injection z with z _ K;subst z K;obtain⟨g,off,rfl,L⟩:=E k _ d;have F:Hid (kY (dT (l.take (k+1)))=kY (dT (l.take k))++[.int .u8 ((n:Int)/256),.int .u8 ((n:Int)%256)]):=by
    show _=_;rw[HQ s,y7,y8,o,uP n y]
   have hsz:=r.out.size;clear d E o;go_wp2_with(at_builtin;refine yp GU (.tmp 12) (.tmp 18) rfl rfl w.heap.size (p.out.alloc _) (b:=wr.heap.size) (off:=0) (m:=2) (c:=2) [.int .u8 ((n:Int)/256),.int .u8 ((n:Int)%256)] rfl rfl rfl (λj u hu=>(ag.new wr [.int .u8 ((n:Int)/256),.int .u8 ((n:Int)%256)] 5).cell (0+j) (by rw[HR];exact hu)) rfl (by omega) (by omega) (by simp;omega) ?_);intro v3 w3 f i;have A:Hid (w3.ownsRow w.heap.size 5 1 v3 (2*(k+1)) (kY (dT (l.take (k+1))))):=by
    rw[F.out,show 2*(k+1)=2*k+2 by omega];exact f
   have B:Hid (Kp ae w w3):=(r.out.alloc _).grown i (λb e=>.inr (an p.out e).1);clear f i F p r;go_wp2_with fail;go_roundw
   case rel=>exact⟨k+1,by go_num,by omega,A,B⟩
   case measure=>simp[intOf];omega
  ·have C:k=l.length:=by omega
   have M:=xB p.out (by omega);rw[IJ (by omega)]at M
   have HF:=aa (xy (a:=tx (dT l)) rfl);clear p C;go_wp2_with fail;go_ret;exact⟨rfl,r.out⟩
def Bg(s:ByteArray)(d:s.size<=1000000)(w:World):Calls Tryz.prog 48 #[.string s] w λe w'=>e=.returned (.string s)/\Kp ae w w':=by
 have b:=aa (λW=>Tryz.stringslite_Clone s W (by omega));go_enter Tryz.func48,Tryz.ntmps48;go_wp2_with fail;refine(b.out _).mono ?_;rintro e w1 ⟨rfl,a⟩;have c:=aa ((Kp.wP a).mono (T:=ae) (λi f g=>by omega));clear a;go_wp2;go_ret;exact⟨rfl,c.out⟩
def y_(s:ByteArray)(h:28<=s.size):jq (bl s)=(decide (s[0].toNat=69)&&(decide (s[1].toNat%4=0)&&(decide (hf (bl s) 2=s.size)&&(decide (hf (bl s) 6=0)&&(decide (s[9].toNat=17)&&(decide (hf (bl s) 24+20=s.size)&&decide (hf (bl s) 26=0))))))):=by
 unfold jq;rw[gd s 0 (by omega),gd s 1 (by omega),gd s 9 (by omega),aG]
def za(s:ByteArray)(h:28<=s.size)(C:s.size<=1000000)(w:World):Calls Tryz.prog 44 #[.string s] w λe w'=>e=.returned (.bool (jq (bl s)))/\Kp ae w w':=by
 rw[y_ s h];have g0:=Ix s[0];have g1:=Ix s[1];have g9:=Ix s[9];have z0:(0:Int)<s.size:=by omega
 have O:(1:Int)<s.size:=by omega
 have z9:(9:Int)<s.size:=by omega
 have q:Hid (∀W,Calls Tryz.prog 45 #[.string s,.int .i64 2] W λe w'=>e=.returned (.int .u16 (hf (bl s) 2:Nat))/\Kp ae W w'):=aa (λW=>fR s 2 (by omega) C W);have b2:=gA (bl s) 2;have u:Hid (∀W,Calls Tryz.prog 45 #[.string s,.int .i64 6] W λe w'=>e=.returned (.int .u16 (hf (bl s) 6:Nat))/\Kp ae W w'):=aa (λW=>fR s 6 (by omega) C W);have J:=gA (bl s) 6;have m:Hid (∀W,Calls Tryz.prog 45 #[.string s,.int .i64 24] W λe w'=>e=.returned (.int .u16 (hf (bl s) 24:Nat))/\Kp ae W w'):=aa (λW=>fR s 24 (by omega) C W);have F:=gA (bl s) 24;have r:Hid (∀W,Calls Tryz.prog 45 #[.string s,.int .i64 26] W λe w'=>e=.returned (.int .u16 (hf (bl s) 26:Nat))/\Kp ae W w'):=aa (λW=>fR s 26 (by omega) C W);have G:=gA (bl s) 26;obtain⟨x2,H⟩:∃x,hf (bl s) 2=x:=⟨_,rfl⟩
 rw[H]at q b2 ⊢
 clear H;obtain⟨v,I⟩:∃x,hf (bl s) 6=x:=⟨_,rfl⟩
 rw[I]at u J ⊢
 clear I;obtain⟨n,z⟩:∃x,hf (bl s) 24=x:=⟨_,rfl⟩
 rw[z]at m F ⊢
 clear z;obtain⟨i,A⟩:∃x,hf (bl s) 26=x:=⟨_,rfl⟩
 rw[A]at r G ⊢
 clear A;obtain⟨o,K⟩:∃x,s[0].toNat=x:=⟨_,rfl⟩
 rw[K]at g0 ⊢
 obtain⟨n1,L⟩:∃x,s[1].toNat=x:=⟨_,rfl⟩
 rw[L]at g1 ⊢
 obtain⟨B,M⟩:∃x,s[9].toNat=x:=⟨_,rfl⟩
 rw[M]at g9 ⊢
 by_cases c0:o=69
 ·skip
  by_cases c1:n1%4=0
  ·skip
   by_cases g:x2=s.size
   ·skip
    by_cases l:v=0
    ·skip
     by_cases p:B=17
     ·skip
      by_cases y:n+20=s.size
      ·skip
       by_cases D:i=0
       ·skip
        rw[Hz c0,Hz c1,Hz g,Hz l,Hz p,Hz y,Hz D];show Calls _ _ _ _ λe w'=>e=.returned (.bool true)/\_;have i0:((o:Int)=69):=by omega
        have i1:((n1:Int)%4=0):=by omega
        have i2:((x2:Int)=s.size):=by omega
        have i3:((v:Int)=0):=by omega
        have i4:((B:Int)=17):=by omega
        have i5:((n:Int)=(s.size:Int)-20):=by omega
        have i6:((i:Int)=0):=by omega
        have i7:((i:Int)==0)=true:=by rw[i6];rfl
        clear c0 c1 g l p y D;go_enter Tryz.func44,Tryz.ntmps44;go_wp2_with fail;refine(q.out _).mono ?_;rintro e w1 ⟨rfl,a⟩;have c:=aa (a);clear a;go_wp2_with fail;refine(u.out _).mono ?_;rintro e E ⟨rfl,b⟩;have d:=aa (c.out.trans b);clear b;go_wp2_with fail;refine(m.out _).mono ?_;rintro e w3 ⟨rfl,f⟩;have j:=aa (d.out.trans f);clear f;go_wp2_with fail;refine(r.out _).mono ?_;rintro e N ⟨rfl,k⟩;have t:=aa (j.out.trans k);clear k;go_wp2_with fail;go_ret;exact⟨rfl,t.out⟩
       ·rw[Hz c0,Hz c1,Hz g,Hz l,Hz p,Hz y,HN D];show Calls _ _ _ _ λe w'=>e=.returned (.bool false)/\_;have i0:((o:Int)=69):=by omega
        have i1:((n1:Int)%4=0):=by omega
        have i2:((x2:Int)=s.size):=by omega
        have i3:((v:Int)=0):=by omega
        have i4:((B:Int)=17):=by omega
        have i5:((n:Int)=(s.size:Int)-20):=by omega
        have i6:¬((i:Int)=0):=by omega
        have i7:((i:Int)==0)=false:=HM.2 i6;clear c0 c1 g l p y D;go_enter Tryz.func44,Tryz.ntmps44;go_wp2_with fail;refine(q.out _).mono ?_;rintro e w1 ⟨rfl,a⟩;have c:=aa (a);clear a;go_wp2_with fail;refine(u.out _).mono ?_;rintro e E ⟨rfl,b⟩;have d:=aa (c.out.trans b);clear b;go_wp2_with fail;refine(m.out _).mono ?_;rintro e w3 ⟨rfl,f⟩;have j:=aa (d.out.trans f);clear f;go_wp2_with fail;refine(r.out _).mono ?_;rintro e N ⟨rfl,k⟩;have t:=aa (j.out.trans k);clear k;go_wp2_with fail;go_ret;exact⟨rfl,t.out⟩
      ·rw[Hz c0,Hz c1,Hz g,Hz l,Hz p,HN y];show Calls _ _ _ _ λe w'=>e=.returned (.bool false)/\_;have i0:((o:Int)=69):=by omega
       have i1:((n1:Int)%4=0):=by omega
       have i2:((x2:Int)=s.size):=by omega
       have i3:((v:Int)=0):=by omega
       have i4:((B:Int)=17):=by omega
       have i5:¬((n:Int)=(s.size:Int)-20):=by omega
       clear c0 c1 g l p y;go_enter Tryz.func44,Tryz.ntmps44;go_wp2_with fail;refine(q.out _).mono ?_;rintro e w1 ⟨rfl,a⟩;have c:=aa (a);clear a;go_wp2_with fail;refine(u.out _).mono ?_;rintro e E ⟨rfl,b⟩;have d:=aa (c.out.trans b);clear b;go_wp2_with fail;refine(m.out _).mono ?_;rintro e w3 ⟨rfl,f⟩;have j:=aa (d.out.trans f);clear f;go_wp2_with fail;go_ret;exact⟨rfl,j.out⟩
     ·rw[Hz c0,Hz c1,Hz g,Hz l,HN p];show Calls _ _ _ _ λe w'=>e=.returned (.bool false)/\_;have i0:((o:Int)=69):=by omega
      have i1:((n1:Int)%4=0):=by omega
      have i2:((x2:Int)=s.size):=by omega
      have i3:((v:Int)=0):=by omega
      have i4:¬((B:Int)=17):=by omega
      clear c0 c1 g l p;go_enter Tryz.func44,Tryz.ntmps44;go_wp2_with fail;refine(q.out _).mono ?_;rintro e w1 ⟨rfl,a⟩;have c:=aa (a);clear a;go_wp2_with fail;refine(u.out _).mono ?_;rintro e E ⟨rfl,b⟩;have d:=aa (c.out.trans b);clear b;go_wp2_with fail;go_ret;exact⟨rfl,d.out⟩
    ·rw[Hz c0,Hz c1,Hz g,HN l];show Calls _ _ _ _ λe w'=>e=.returned (.bool false)/\_;have i0:((o:Int)=69):=by omega
     have i1:((n1:Int)%4=0):=by omega
     have i2:((x2:Int)=s.size):=by omega
     have i3:¬((v:Int)=0):=by omega
     clear c0 c1 g l;go_enter Tryz.func44,Tryz.ntmps44;go_wp2_with fail;refine(q.out _).mono ?_;rintro e w1 ⟨rfl,a⟩;have c:=aa (a);clear a;go_wp2_with fail;refine(u.out _).mono ?_;rintro e E ⟨rfl,b⟩;have d:=aa (c.out.trans b);clear b;go_wp2_with fail;go_ret;exact⟨rfl,d.out⟩
   ·rw[Hz c0,Hz c1,HN g];show Calls _ _ _ _ λe w'=>e=.returned (.bool false)/\_;have i0:((o:Int)=69):=by omega
    have i1:((n1:Int)%4=0):=by omega
    have i2:¬((x2:Int)=s.size):=by omega
    clear c0 c1 g;go_enter Tryz.func44,Tryz.ntmps44;go_wp2_with fail;refine(q.out _).mono ?_;rintro e w1 ⟨rfl,a⟩;have c:=aa (a);clear a;go_wp2_with fail;go_ret;exact⟨rfl,c.out⟩
  ·rw[Hz c0,HN c1];show Calls _ _ _ _ λe w'=>e=.returned (.bool false)/\_;have i0:((o:Int)=69):=by omega
   have i1:¬((n1:Int)%4=0):=by omega
   clear c0 c1;go_enter Tryz.func44,Tryz.ntmps44;go_wp2_with fail;go_ret;exact⟨rfl,Kp.refl _ _⟩
 ·rw[HN c0];show Calls _ _ _ _ λe w'=>e=.returned (.bool false)/\_;have i0:¬((o:Int)=69):=by omega
  clear c0;go_enter Tryz.func44,Tryz.ntmps44;go_wp2_with fail;go_ret;exact⟨rfl,Kp.refl _ _⟩
end
section
open Go Go.RowKit Go.Shelf
def jt{P:Program}{f:Func}{s u v:Tmp}{ty:TypeId}(hf:f.results=#[.cell s ty,.tmp u,.tmp v]){R:Ending->World->Prop}{W:World}{g:Nat}{cs:List Value}{t:TypeId}{T:Array Value}(b:ag W g cs t)(d:TypeDesc)(hu:P.underlying ty=some d)(hd:(match d with| .struct _| .array _ _=>true|_=>false)=true)
    (hi:(P.info? ty).map (·.size)=some cs.length) (c:T.getD s undef=.pointer (some ⟨g,0,none⟩)) (e:R (.returned (.tuple #[.agg cs.toArray,T.getD u undef,T.getD v undef])) W):bodyPost P f R Exit.ret {tmps:=T,defers:=[]} W:=by
 refine HT (v:=.tuple #[.agg cs.toArray,T.getD u undef,T.getD v undef]) ?_ rfl e;have a:T[s]?.getD undef=.pointer (some ⟨g,0,none⟩):=by simpa using c
 simp[results,hf,a,asAddr,Jy W g t ty cs.toArray (0,0) d b.is hu hd (by rw[HY];exact hi)]
def aV{P:Program}{ops:Array Oper}{rest:List Oper}{op:Oper}{a:Act}{Q:Exit->Act->World->Prop}(f:op.guard=none)(ty:TypeId)(x y:Operand)(g:op.op=.store ty x y){w:World}{b:Nat}{cs:List Value}{t:TypeId}(i:ag w b cs t)(c:List Value)(j:c.length=cs.length)
    (k:a.eval x=.pointer (some ⟨b,0,none⟩)) (hy:a.eval y=.agg c.toArray) (d:(P.info? ty).map (·.size)=some c.length) (l:c.all (·.oneCell')=true)
    (h:∀e,ag e b c t->Kp (λz=>z=b) w e->wpList P ops Q rest (a.put op.dst undef) e):wpList P ops Q (op::rest) a w:=
 b0 f ty x y g i c k hy d j.symm (HV.1 l) λe m _ n=>h e m (n (λz=>z=b) w (Kp.refl _ _) (.inl rfl))
def lA:e_:=⟨0,0,0,0,0,0,0⟩
def dO:(Tryz.prog.info? 42).map (·.size)=some 7:=by kernel_rfl
def tj(s:ByteArray):bl (s.extract 0 10++⟨#[0,0]⟩++s.extract 12 20)=oZ (bl s):=by
 rw[dq,dq,fD,fD];unfold oZ;rw[JJ,Ir];rfl
def l_(s:ByteArray)(V:s.size<=100000)(he:aS (bl s)≠0)(w:World):Calls Tryz.prog 24 #[.string s] w λe w'=>e=.returned (.tuple #[.agg (cj lA).toArray,.string ⟨#[]⟩,.int .i64 (aS (bl s))])/\Kp ae w w':=by
 have b:=aa (ag.new w (cj lA) 42);have c:=aa ((Kp.refl ae w).alloc (.cells (cj lA).toArray 42));by_cases D:s.size<28
 ·have l:aS (bl s)=2:=by unfold aS;rw[Hl (by rw[aG];exact D)]
  rw[l];have hi:(s.size:Int)<28:=by omega
  clear he;go_enter Tryz.func24,Tryz.ntmps24;go_wp2_with fail;exact jt (by exact rfl) b.out _ Tryz.underlying42 rfl dO (by exact rfl) ⟨rfl,c.out⟩
 ·have hi:¬(s.size:Int)<28:=by omega
  have HF:=aa (λW=>za s (by omega) (by omega) W);by_cases g:jq (bl s)=false
  ·have l:aS (bl s)=3:=by unfold aS;rw[Hk (by rw[aG];exact D),Hl g]
   rw[l];rw[g]at HF
   clear he g l;go_enter Tryz.func24,Tryz.ntmps24;go_wp2_with fail;refine(HF.out _).mono ?_;rintro e w1 ⟨rfl,a⟩;have j:=aa (c.out.trans a);have u:=b.out.kp a (λx=>x);have k:=aa u;clear a u b c;go_wp2_with(refine aV rfl 42 (.tmp 2) (.tmp 15) rfl k.out (cj lA) rfl rfl rfl dO rfl ?_;intro J v y;have m:=aa v;have n:Hid (Kp ae w J):=aa (j.out.then y (λi g E=>by omega));clear v y);exact jt (by exact rfl) m.out _ Tryz.underlying42 rfl dO (by exact rfl) ⟨rfl,n.out⟩
  ·have z:jq (bl s)=true:=by cases O:jq (bl s);exact absurd O g;rfl
   have E:hf (bl s) 10≠gz (oZ (bl s)):=λe=>he (by unfold aS;rw[Hk (by rw[aG];exact D),Hk g,Hl e]);have l:aS (bl s)=11:=by unfold aS;rw[Hk (by rw[aG];exact D),Hk g,Hk E]
   rw[l];rw[z]at HF
   have K:Hid (∀W,Calls Tryz.prog 45 #[.string s,.int .i64 10] W λe w'=>e=.returned (.int .u16 (hf (bl s) 10:Nat))/\Kp ae W w'):=aa (λW=>fR s 10 (by omega) (by omega) W);have o:=tj s;have hsz:(s.extract 0 10).size=10:=by rw[<-aG,fD,HG,IU,aG];omega
   have d:(s.extract 12 20).size=8:=by rw[<-aG,fD,HG,IU,aG];omega
   have X:=dB (P:=Tryz.prog) (s.extract 0 10) ⟨#[0,0]⟩ (by rw[hsz];show 10+2<=_;decide);have f:(s.extract 0 10++⟨#[0,0]⟩:ByteArray).size=12:=by rw[<-aG,dq,HK,aG,hsz];rfl
   have x2:=dB (P:=Tryz.prog) (s.extract 0 10++⟨#[0,0]⟩) (s.extract 12 20) (by rw[f,d];decide);obtain⟨T,F⟩:∃T,s.extract 0 10++⟨#[0,0]⟩++s.extract 12 20=T:=⟨_,rfl⟩
   rw[F]at o x2
   have G:T.size=20:=by rw[<-F,<-aG,dq,HK,aG,aG,f,d]
   have r:=λW=>uO T (by omega) W;rw[o]at r
   have L:=aa (λW=>aF (r W));have M:¬((hf (bl s) 10:Nat):Int)=((gz (oZ (bl s)):Nat):Int):=by omega
   have A:=gA (bl s) 10;obtain⟨p,hp⟩:∃p,hf (bl s) 10=p:=⟨_,rfl⟩
   obtain⟨q,N⟩:∃q,gz (oZ (bl s))=q:=⟨_,rfl⟩
   rw[hp]at M K A
   rw[N]at M L
   have Q:(10:Int)<=s.size:=by omega
   have R:(20:Int)<=s.size:=by omega
   clear he g l z E o hsz d f F G r hp N;go_enter Tryz.func24,Tryz.ntmps24;go_wp2_with fail;refine(HF.out _).mono ?_;rintro e w1 ⟨rfl,a⟩;have j:=aa (c.out.trans a);have k:=aa (b.out.kp a (λx=>x));clear a b c;go_wp2_with fail;refine ar 9 (by kernel_rfl) (λ_ _ _ _ _ h=>h) ?_;simp only[aO]
   repeat((first
    |refine ay (by rfl) (by as_aux_lemma=>intro W S;go_simp;exact rfl) ?_
    |refine ah (by rfl) ?_
    |refine aR (by rfl) (by as_aux_lemma=>intro W;go_simp;exact⟨rfl,rfl⟩) (by intro W S;with_reducible first|exact K.out W|exact L.out W) ?_);simp only[Act.put,aH])
   intro J t;have n:=aa (j.out.trans t);have m:=aa (k.out.kp t (λx=>x));clear t j k;go_wp2_with(refine aV rfl 42 (.tmp 2) (.tmp 27) rfl m.out (cj lA) rfl rfl rfl dO rfl ?_;intro U B C;have H:=aa B;have I:Hid (Kp ae w U):=aa (n.out.then C (λi g E=>by omega));clear B C);exact jt (by exact rfl) H.out _ Tryz.underlying42 rfl dO (by exact rfl) ⟨rfl,I.out⟩
def ft{l:List UInt8}(h:aS l=0):28<=l.length/\jq l=true/\hf l 10=gz (oZ l):=by
 unfold aS at h;split at h
 ·cases h
 ·split at h
  ·cases h
  ·split at h
   ·rename_i d a b;exact⟨by omega,by cases c:jq l;exact absurd c a;rfl,b⟩
   ·cases h
end
namespace cq
open Go.RowKit
def qL(m:List Int)(i:Int)(h:∀z∈m,0<=z):m.find? (λy=>decide (max i 0<=y))=m.find? (λy=>decide (i<=y)):=by
 induction m with
 |nil=>rfl
 |cons a r b=>
  have ha:=h a (by simp);have:decide (max i 0<=a)=decide (i<=a):=by rw[IQ];omega
  simp only[List.find?_cons,this,b (λz hz=>h z (by simp[hz]))]
def xC(m:List Int)(i:Int)(h:∀z∈m,0<=z)(a:0<=hb m (max i 0)):ez m i=(hb m (max i 0),true):=by
 unfold hb at*;rw[qL m i h]at*
 unfold ez;cases hf:m.find? (λy=>decide (i<=y))with
 |none=>rw[hf]at a;simp at a
 |some y=>rfl
def uQ(m:List Int)(i:Int)(h:∀z∈m,0<=z)(hm:m≠ [])(b:hb m (max i 0)<0):ez m i=(hb m 0,true):=by
 unfold hb at*;rw[qL m i h]at*
 unfold ez;cases hf:m.find? (λy=>decide (i<=y))with
 |some y=>
  rw[hf]at b
  have:=h y (Kk hf);simp at b;omega
 |none=>
  cases m with
  |nil=>exact absurd rfl hm
  |cons a r=>simp[h a (by simp)]
def Bh(p k bl:Nat)(B:Nat->Nat)(L:Lv)(i:Int)(w:World)(h:ck w p k bl B L 0):
    Calls Tryz.prog 215 #[.pointer (some ⟨p,0,none⟩),.int .i64 i] w λe w'=>e=.returned (.tuple #[.int .i64 0,.bool false])/\w=w':=by
 have a:=yJ p k bl B L 0 w h;clear h;go_enter Tryz.func215,Tryz.ntmps215;go_wp2_with fail;refine a.mono ?_;rintro e w' ⟨rfl,rfl⟩;go_wp2;go_ret2;exact⟨rfl,rfl⟩
def DO(p k bl:Nat)(B:Nat->Nat)(L:Lv)(m:List Int)(i:Int)(w:World)(h:ck w p k bl B L m.length)(ok:Ok k L m)(k3:k<=3)(v:dH w)(hi:i<=9223372036854775807):
    Calls Tryz.prog 215 #[.pointer (some ⟨p,0,none⟩),.int .i64 i] w λe w'=>e=.returned (.tuple #[.int .i64 (ez m i).1,.bool (ez m i).2])/\w=w':=by
 by_cases hm:m=[]
 ·subst hm;exact Bh p k bl B L i w h
 ·have k1:=ok.k1;have hlen:=yJ p k bl B L m.length w h;have f:=AU p k bl B L m.length m w h ok k3 v (k-1);have n:=f (max i 0).toNat (by omega) (by omega);have g:=f 0 (by omega) (by omega);rw[ok.yA,show(((max i 0).toNat:Nat):Int)=max i 0 from by omega]at n
  rw[ok.yA]at g
  have a:∀z∈m,0<=z:=λz hz=>(ok.mem z hz).1;have ha:=xC m i a;have q:=uQ m i a hm;obtain⟨cap,c0⟩:=h.c0;have hz:((m.length:Int)==0)=false:=by
   have:m.length≠0:=by simpa using hm
   simp;omega
  have r:(((k-1:Nat):Int))=(k:Int)-1:=by omega
  rw[r]at n g
  generalize o:hb m (max i 0)=r1 at*;have j:hb m ((0:Nat):Int)=hb m 0:=rfl;rw[j]at g
  rw[show((0:Nat):Int)=0 from rfl]at g
  generalize hb m 0=r2 at*;have H1:=aa n;have x:=aa g;have s:=aa hlen;have t:=aa ha;have u:=aa q;clear h ok f n g hlen ha q r o j;have b:(i<0/\max i 0=0)\/(¬i<0/\max i 0=i):=by omega
  have c:0<=r1->ez m i=(r1,true):=t.out;have d:r1<0->ez m i=(r2,true):=u.out;clear t u a;generalize ez m i=fr at*;have y:=aa c;have A:=aa d;clear c d hm;rcases b with⟨l,b⟩|⟨l,b⟩;all_goals
   rw[b]at H1
   by_cases C:0<=r1
   ·have F:=aa (y.out C);go_enter Tryz.func215,Tryz.ntmps215;go_wp2_with fail;refine(s.out).mono ?_;rintro e w' ⟨rfl,rfl⟩;go_wp2_with fail;refine(H1.out).mono ?_;rintro e w' ⟨rfl,rfl⟩;go_wp2;go_ret2;exact⟨by rw[F.out];rfl,rfl⟩
   ·have F:=aa (A.out (by omega));go_enter Tryz.func215,Tryz.ntmps215;go_wp2_with fail;refine(s.out).mono ?_;rintro e w' ⟨rfl,rfl⟩;go_wp2_with fail;refine(H1.out).mono ?_;rintro e w' ⟨rfl,rfl⟩;go_wp2_with fail;refine(x.out).mono ?_;rintro e w' ⟨rfl,rfl⟩;go_wp2;go_ret2;exact⟨by rw[F.out];rfl,rfl⟩
def GV:gL Tryz.prog 304 236 (.slice none 0 0) 1 24:=⟨Tryz.underlying304,by kernel_rfl,rfl,by decide⟩
def DP:(Tryz.prog.info? 38).map (λi=>(i.zero,i.size,i.bytes))=some (some (.int .u64 0),1,8):=by kernel_rfl
def jQ:Lv:=λj=>List.replicate (64^j) 0
structure kH (w wr:World) (v:Value) (j:Nat) (B:Nat->Nat):Prop where
 own:wr.ownsRow (w.heap.size+1) 236 1 v j ((List.range j).map (λi=>Value.slice (some ⟨B i,0,none⟩) (64^i) (64^i)))
 blk:ag wr w.heap.size [v,.int .i64 0] 306
 rows:∀i,i<j->ag wr (B i) (wd (jQ i)) 38/\w.heap.size<=B i
 kp:Kp ae w wr
def kH.step{w wr Z w1:World}{m:Option Addr}{cap j:Nat}{B:Nat->Nat}(h:kH w wr (.slice m j cap) j B)(hz:Kp ae wr Z)(v:ag Z wr.heap.size (wd (jQ j)) 38){g cap1:Nat}
    (f:w1.ownsRow (w.heap.size+1) 236 1 (.slice (some ⟨g,0,none⟩) (j+1) cap1) (j+1) ((List.range j).map (λi=>Value.slice (some ⟨B i,0,none⟩) (64^i) (64^i))++[.slice (some ⟨wr.heap.size,0,none⟩) (64^j) (64^j)]))
    (n:Z.grownBy w1 (Value.slice m j cap).ownBlock):
    kH w (w1.setCell ⟨w.heap.size,0,none⟩ (.slice (some ⟨g,0,none⟩) (j+1) cap1)) (.slice (some ⟨g,0,none⟩) (j+1) cap1) (j+1) (λi=>if i=j then wr.heap.size else B i):=by
 have x:=h.blk.lt;have r:∀b,b<wr.heap.size->(Value.slice m j cap).ownBlock=some b->w.heap.size+1<=b:=λb _ e=>(an h.own e).1;have o:Kp ae w w1:=(h.kp.trans hz).grown n (λb e=>.inr (by have:=(an h.own e).1;omega));have k:∀b cs t,ag wr b cs t->t≠236->ag w1 b cs t:=λb cs t d ht=>by
  refine(d.kp hz id).grown n (λe=> ?_);obtain⟨_,y⟩:=h.own;rcases y with⟨p,_⟩|⟨C,s,cur,p,_,z,_⟩
  ·rw[p]at e;simp[Value.ownBlock]at e
  ·rw[p]at e;simp[Value.ownBlock]at e
   subst e;have:=d.is.symm.trans z;simp at this;exact ht this.2
 have q:∀i,i<j->ag w1 (B i) (wd (jQ i)) 38:=λi hi=>k _ _ _ (h.rows i hi).1 (by decide);have l:ag w1 wr.heap.size (wd (jQ j)) 38:=v.grown n (λe=>by have:=(an h.own e.symm).2;omega);have c:=k _ _ _ h.blk (by decide);have u:∀b,ag w1 b (wd (jQ j)) 38->b≠w.heap.size:=λb d e=>by subst e;have:=(d.inj c).2;simp at this
 refine⟨?_,c.set 0 _,λi hi=> ?_,o.set (.inr (Hm _)) _⟩
 ·have e:(List.range (j+1)).map (λi=>Value.slice (some ⟨if i=j then wr.heap.size else B i,0,none⟩) (64^i) (64^i))=(List.range j).map (λi=>Value.slice (some ⟨B i,0,none⟩) (64^i) (64^i))++[.slice (some ⟨wr.heap.size,0,none⟩) (64^j) (64^j)]:=by
   rw[List.range_succ,HE];congr 1
   ·apply Jc;intro i hi;rw[Hk (by have:=H7.1 hi;omega)]
   ·simp
  rw[e];exact ownsRow_setCell_below f (by simp) _
 ·by_cases e:i=j
  ·subst e;rw[Hl rfl];exact⟨l.bJ (a:=⟨w.heap.size,0,none⟩) (show wr.heap.size≠w.heap.size by have:=h.blk.lt;omega) _,by omega⟩
  ·rw[Hk e];have d:=q i (by omega);refine⟨d.bJ (λe=> ?_) _,(h.rows i (by omega)).2⟩;have A:B i=w.heap.size:=e;rw[A]at d
   have:=(d.inj c).2;simp at this
def kH.done{w wr:World}{c:Option Addr}{cap k:Nat}{B:Nat->Nat}(h:kH w wr (.slice c k cap) k B)(k1:1<=k):∃bl,ck wr w.heap.size k bl B jQ 0/\(∀b,Fp w.heap.size bl B k b->w.heap.size<=b)/\c=some ⟨bl,0,none⟩:=by
 obtain⟨n,i⟩:=h.own;rcases i with⟨_,e⟩|⟨g,d,cur,f,o,l,p,hm,q,ht⟩
 ·omega
 ·simp at f;obtain⟨rfl,rfl⟩:=f;refine⟨g,⟨⟨_,h.blk⟩,⟨cur.toList.drop k,?_⟩,λj a=>(h.rows j a).1⟩,λb m=> ?_,rfl⟩
  ·constructor;have e:((List.range k).map (λj=>Value.slice (some ⟨B j,0,none⟩) (jQ j).length (jQ j).length))=cur.toList.take k:=by
    rw[Iu]at ht;rw[ht];simp[jQ]
   rw[e,Jq];simpa using l
  ·rcases m with rfl|rfl|⟨j,a,rfl⟩
   ·omega
   ·omega
   ·exact(h.rows j a).2
def yY(k:Nat)(w:World)(k1:1<=k)(k3:k<=3):
    Calls Tryz.prog 117 #[.int .i64 k] w λe w'=>∃p bl B,e=.returned (.tuple #[.pointer (some ⟨p,0,none⟩),.int .i64 0])/\ck w' p k bl B jQ 0/\(∀b,Fp p bl B k b->w.heap.size<=b)/\Kp ae w w':=by
 go_enter Tryz.func117,Tryz.ntmps117;go_wp2;go_loopw [5] (λq wr=>∃(j:Nat) (v:Value) (B:Nat->Nat),j<=k/\q=.int .i64 ((64^j:Nat):Int)/\Hid (kH w wr v j B)) (λq _=>262144-(intOf q).toNat)
 case atStart=>exact⟨0,.slice none 0 0,λ_=>0,Hv _,rfl,World.ownsRow_nil _ _ _ _,ag.new _ _ _,λi h=>absurd h (KU _),(Kp.refl _ _).alloc _⟩
 case round=>
  obtain⟨j,v,B,D,rfl,a⟩:=hrel;obtain⟨x,cap,rfl⟩:=aN a.out.own;have c0:=a.out.blk.ai;by_cases y:j<k
  ·have hp:64^j<=4096:=rT j (by omega);have z:1<=64^j:=Jm (by decide);have l:=run_make_row' (P:=Tryz.prog) 236 38 (.int .u64 0) 8 Tryz.underlying236 DP rfl .i64 .i64 (64^j) (by omega) (by omega);rw[Dl]at l
   have hz:=a.out.kp.size;have hsz:=a.out.blk.lt;have fz:=a.out.blk.fz 0;generalize o:64^j=M at*;go_wp2;have r:(j+1)*24<=140737488355328:=by omega
   go_region_law ((refine oF GV (.tmp 27) (.tmp 30) rfl rfl (w.heap.size+1) (v:=.slice x j cap) (((a.out.own.alloc _).alloc _).drew) [.slice (some ⟨wr.heap.size,0,none⟩) M M] rfl rfl rfl (fr:=(0,0)) (lf _ _ _ (by simp)) rfl r (by omega) (by simp;omega) ?_);intro g cap1 w1 f c;have d:=((((a.out.blk.alloc _).alloc _).drew).grown c (λe=>by have:=(an a.out.own e.symm).1;omega));have d0:=d.ai;have f0:=d.fz 0)
   all_goals
    subst o;have m:=a.out.step (w1:=w1) (cap1:=cap1) (g:=g) (Z:=((wr.alloc (.cells (Array.replicate (64^j) (.int .u64 0)) 38)).alloc (.cells #[.slice (some ⟨wr.heap.size,0,none⟩) (64^j) (64^j)] 236)).drew) ((((Kp.refl _ _).alloc _).alloc _).drew) (ag.drew (ag.alloc ⟨by rw[cz];simp[wd,jQ]⟩ _)) f c;have s:=aa m;clear m f c d d0 f0 l;have n:((64^(j+1):Nat):Int)=((64^j:Nat):Int)*64:=by rw[Ij];simp
    have t:=aa n;clear n;generalize o:64^j=M at*;have A:=aa o;clear o;go_wp2;go_roundw
    case rel=>exact⟨j+1,_,_,by omega,by rw[t.out],s.out⟩
    case measure=>simp only[intOf];rw[A.out];omega
  ·obtain rfl:j=k:=by omega
   obtain⟨bl,hf,u,_⟩:=a.out.done k1;have HF:=aa hf;have C:=aa a.out.kp;clear hf;go_wp2;go_ret2;exact⟨_,bl,B,rfl,HF.out,u,C.out⟩
def SR(w:World)(p k bl:Nat)(B:Nat->Nat)(m:List Int):Prop:=∃L,ck w p k bl B L m.length/\Ok k L m
def SR.kp{S:Nat->Prop}{w w':World}{p k bl:Nat}{B:Nat->Nat}{m:List Int}(h:SR w p k bl B m)(K:Kp S w w')(a:∀b,Fp p bl B k b->¬S b):SR w' p k bl B m:=by
 obtain⟨L,c,d⟩:=h;exact⟨L,c.kp K a,d⟩
def SR.old{w w':World}{p k bl:Nat}{B:Nat->Nat}{m:List Int}(h:SR w p k bl B m)(K:Kp ae w w'):SR w' p k bl B m:=h.kp K (λ_ _ h=>h)
def SR.sorted{w:World}{p k bl:Nat}{B:Nat->Nat}{m:List Int}(h:SR w p k bl B m):m.Pairwise (·< ·):=by obtain⟨L,_,h⟩:=h;exact h.sorted
def SR.lt{w:World}{p k bl:Nat}{B:Nat->Nat}{m:List Int}(h:SR w p k bl B m){b:Nat}(a:Fp p bl B k b):b<w.heap.size:=by obtain⟨L,h,_⟩:=h;exact h.lt a
def Bi(k:Nat)(k1:1<=k):Ok k jQ []:=by
 have hz:∀n i,(List.replicate n 0).getD i 0=0:=λn i=>by simp[List.getD,I2];split<;>simp
 have a:∀j i,bm (jQ j) i=false:=λj i=>by unfold bm jQ;rw[hz];simp
 refine⟨k1,λj _=>by simp[jQ],λj _ x b=>by simp[jQ]at b;omega,λi _=>by simp[a],λj _ i _=>by rw[a];unfold jQ;rw[hz];rfl,λz hz=>by simp at hz,List.Pairwise.nil⟩
def FD(k:Nat)(w:World)(k1:1<=k)(k3:k<=3):
    Calls Tryz.prog 117 #[.int .i64 k] w λe w'=>∃p bl B,e=.returned (.tuple #[.pointer (some ⟨p,0,none⟩),.int .i64 0])/\SR w' p k bl B []/\(∀b,Fp p bl B k b->w.heap.size<=b)/\Kp ae w w':=
 (yY k w k1 k3).mono λ_ _ ⟨p,bl,B,a,c,d,f⟩=>⟨p,bl,B,a,⟨jQ,c,Bi k k1⟩,d,f⟩
def FE(p k bl:Nat)(B:Nat->Nat)(m:List Int)(w:World)(h:SR w p k bl B m):
    Calls Tryz.prog 213 #[.pointer (some ⟨p,0,none⟩)] w λe w'=>e=.returned (.int .i64 m.length)/\w=w':=by
 obtain⟨L,h,ok⟩:=h;exact yJ p k bl B L _ w h
def xD(k:Nat):Int:=((64^k:Nat):Int)
def zb(p k bl:Nat)(B:Nat->Nat)(m:List Int)(w:World)(h:SR w p k bl B m)(k3:k<=3):
    Calls Tryz.prog 119 #[.pointer (some ⟨p,0,none⟩)] w λe w'=>e=.returned (.int .i64 (xD k))/\∃d,w'=w.drewN d:=by
 obtain⟨L,h,ok⟩:=h;have:=rR p k bl B L _ w h ok.k1 k3 (ok.le k3 _ (by have:=ok.k1;omega));have e:(64*((L (k-1)).length:Int))=xD k:=by have:=ok.size;unfold xD;omega
 rw[e]at this;exact this
def zc(p k bl:Nat)(B:Nat->Nat)(m:List Int)(i:Int)(w:World)(h:SR w p k bl B m)(k3:k<=3)(a:dH w)(hi:i<=9223372036854775807):
    Calls Tryz.prog 215 #[.pointer (some ⟨p,0,none⟩),.int .i64 i] w λe w'=>e=.returned (.tuple #[.int .i64 (ez m i).1,.bool (ez m i).2])/\w=w':=by
 obtain⟨L,h,ok⟩:=h;exact DO p k bl B L m i w h ok k3 a hi
def tl(m:List Int)(i:Int)(h:i∉m):dG m i=m:=by
 unfold dG;rw[JF];intro a ha;simp;rintro rfl;exact h ha
def uR(m:List Int)(i:Int)(d:m.Pairwise (·< ·))(h:i∈m):(dG m i).length+1=m.length:=by
 induction m with
 |nil=>simp at h
 |cons a r f=>
  obtain⟨g,j⟩:=HJ.1 d;by_cases e:i=a
  ·subst e;have k:i∉r:=λb=>by have:=g i b;omega
   have:dG (i::r) i=dG r i:=by simp[dG]
   rw[this,tl r i k];rfl
  ·have b:i∈r:=by rcases Ho.1 h with h|h;(exact absurd h e);exact h
   have:dG (a::r) i=a::dG r i:=by
    have c:(a != i)=true:=by simp;exact λh=>e h.symm
    simp[dG,c]
   rw[this,Hs,f j b];rfl
def zd(k:Nat)(i:Int):Bool:=decide (0<=i)&&decide (i<xD k)
def nO(k:Nat)(m:List Int)(i:Int):Bool:=zd k i&& !decide (i∈m)
def FF(p k bl:Nat)(B:Nat->Nat)(m:List Int)(i:Int)(w:World)(h:SR w p k bl B m)(k3:k<=3)(hm:m.length<=100000):
    Calls Tryz.prog 221 #[.pointer (some ⟨p,0,none⟩),.int .i64 i] w λe w'=>e=.returned (.bool (nO k m i))/\SR w' p k bl B (if nO k m i then eP m i else m)/\Kp (Fp p bl B k) w w':=by
 obtain⟨L,h,ok⟩:=h;by_cases b:nO k m i=true
 ·have a:=b;simp only[nO,zd,HS,HI,JR,Io]at a;obtain⟨⟨f,d⟩,g⟩:=a;unfold xD at d;obtain⟨z,rfl⟩:∃z:Nat,i=z:=⟨i.toNat,by omega⟩
  refine(Fl p k bl B L _ z m w h ok k3 (by omega) g (by omega)).mono ?_;rintro e w' ⟨he,hf,c⟩;rw[b];exact⟨he,⟨_,by rw[Hl rfl,wX];exact hf,by rw[Hl rfl];exact ok.put z (by omega) g⟩,c⟩
 ·have a:nO k m i=false:=by simpa using b
  refine(AW p k bl B L _ i m w h ok k3 ?_).mono ?_
  ·by_cases hm:i∈m
   ·exact .inr hm
   ·left;rintro⟨f,d⟩;exact b (by simp only[nO,zd,HS,HI,JR,Io];exact⟨⟨f,d⟩,hm⟩)
  ·rintro e w' ⟨he,c⟩;rw[a,Hk (by simp)];exact⟨he,⟨L,h.old c,ok⟩,c.mono (λ_ _ h=>h.elim)⟩
def DQ(p k bl:Nat)(B:Nat->Nat)(m:List Int)(i:Int)(w:World)(h:SR w p k bl B m)(k3:k<=3)(hm:m.length<=100000):
    Calls Tryz.prog 210 #[.pointer (some ⟨p,0,none⟩),.int .i64 i] w λe w'=>e=.returned (.bool (decide (i∈m)))/\SR w' p k bl B (dG m i)/\Kp (Fp p bl B k) w w':=by
 obtain⟨L,h,ok⟩:=h;by_cases hi:i∈m
 ·have g:=ok.mem i hi;obtain⟨z,rfl⟩:∃z:Nat,i=z:=⟨i.toNat,by omega⟩
  refine(Dv p k bl B L _ z m w h ok k3 hi (by omega)).mono ?_;rintro e w' ⟨he,hf,b⟩;have c:((dG m z).length:Int)=m.length-1:=by
   have d:=ok.sorted;have:(dG m z).length+1=m.length:=by
    exact uR m z d hi
   omega
  exact⟨by simp[he,hi],⟨_,by rw[c];exact hf,ok.drop z (by omega) hi⟩,b⟩
 ·refine(yM p k bl B L _ i m w h ok k3 hi).mono ?_;rintro e w' ⟨he,b⟩;have f:dG m i=m:=by
   unfold dG;rw[JF];intro a ha;simp;rintro rfl;exact hi ha
  rw[f];exact⟨by simp[he,hi],⟨L,h.old b,ok⟩,b.mono (λ_ _ h=>h.elim)⟩
end cq
section
open Go Go.RowKit Go.Shelf
def dC(s:ByteArray)(hs:s.size<=100000)(he:aS (bl s)=0)(w:World):Calls Tryz.prog 24 #[.string s] w λe w'=>e=.returned (.tuple #[.agg (cj (aL (bl s))).toArray,.string (s.extract 28 s.size),.int .i64 0])/\Kp ae w w':=by
 obtain⟨aj,C,D⟩:=ft he;rw[aG]at aj
 have E:=aa (ag.new w (cj lA) 42);have F:=aa ((Kp.refl ae w).alloc (.cells (cj lA).toArray 42));have hi:¬(s.size:Int)<28:=by omega
 have HF:=aa (λW=>za s (by omega) (by omega) W);rw[C]at HF
 have av:Hid (∀W,Calls Tryz.prog 45 #[.string s,.int .i64 10] W λe w'=>e=.returned (.int .u16 (hf (bl s) 10:Nat))/\Kp ae W w'):=aa (λW=>fR s 10 (by omega) (by omega) W);have ak:Hid (∀W,Calls Tryz.prog 45 #[.string s,.int .i64 4] W λe w'=>e=.returned (.int .u16 (hf (bl s) 4:Nat))/\Kp ae W w'):=aa (λW=>fR s 4 (by omega) (by omega) W);have G:Hid (∀W,Calls Tryz.prog 45 #[.string s,.int .i64 20] W λe w'=>e=.returned (.int .u16 (hf (bl s) 20:Nat))/\Kp ae W w'):=aa (λW=>fR s 20 (by omega) (by omega) W);have H:Hid (∀W,Calls Tryz.prog 45 #[.string s,.int .i64 22] W λe w'=>e=.returned (.int .u16 (hf (bl s) 22:Nat))/\Kp ae W w'):=aa (λW=>fR s 22 (by omega) (by omega) W);have I:Hid (∀W,Calls Tryz.prog 47 #[.string s,.int .i64 12] W λe w'=>e=.returned (.int .u32 (wd (bl s) 12:Nat))/\Kp ae W w'):=aa (λW=>y6 s 12 (by omega) (by omega) W);have J:Hid (∀W,Calls Tryz.prog 47 #[.string s,.int .i64 16] W λe w'=>e=.returned (.int .u32 (wd (bl s) 16:Nat))/\Kp ae W w'):=aa (λW=>y6 s 16 (by omega) (by omega) W);have K:Hid (aL (bl s)=⟨s[1].toNat/4,hf (bl s) 4,s[8].toNat,wd (bl s) 12,wd (bl s) 16,hf (bl s) 20,hf (bl s) 22⟩):=by
  show _=_;unfold aL;rw[gd s 1 (by omega),gd s 8 (by omega)]
 have L:=λW=>Bg (s.extract 28 s.size) (by rw[<-aG,fD,HG,IU,aG];omega) W;have aw:=aa L;have n:=tj s;have hsz:(s.extract 0 10).size=10:=by rw[<-aG,fD,HG,IU,aG];omega
 have l:(s.extract 12 20).size=8:=by rw[<-aG,fD,HG,IU,aG];omega
 have x1:=dB (P:=Tryz.prog) (s.extract 0 10) ⟨#[0,0]⟩ (by rw[hsz];show 10+2<=_;decide);have m:(s.extract 0 10++⟨#[0,0]⟩:ByteArray).size=12:=by rw[<-aG,dq,HK,aG,hsz];rfl
 have x2:=dB (P:=Tryz.prog) (s.extract 0 10++⟨#[0,0]⟩) (s.extract 12 20) (by rw[m,l];decide);obtain⟨T,hT⟩:∃T,s.extract 0 10++⟨#[0,0]⟩++s.extract 12 20=T:=⟨_,rfl⟩
 rw[hT]at n x2
 have al:T.size=20:=by rw[<-hT,<-aG,dq,HK,aG,aG,m,l]
 have o:=λW=>uO T (by omega) W;rw[n,<-D]at o
 have ax:=aa (λW=>aF (o W));have g1:=Ix s[1];have g8:=Ix s[8];have z1:(1:Int)<s.size:=by omega
 have z8:(8:Int)<s.size:=by omega
 rw[K.out];obtain⟨n1,e1⟩:∃n1,s[1].toNat=n1:=⟨_,rfl⟩
 obtain⟨n8,e8⟩:∃n8,s[8].toNat=n8:=⟨_,rfl⟩
 rw[e1]at g1 ⊢
 rw[e8]at g8 ⊢
 have m1:((n1/4:Nat):Int)=(n1:Int)/4:=by omega
 have az:(10:Int)<=s.size:=by omega
 have aA:(20:Int)<=s.size:=by omega
 have aB:(28:Int)<=s.size:=by omega
 generalize hf (bl s) 10=p at*;generalize hf (bl s) 4=B at*;generalize hf (bl s) 20=f at*;generalize hf (bl s) 22=g at*;generalize wd (bl s) 12=j at*;generalize wd (bl s) 16=k at*;have aC:Hid (∀(W:World),ag (W.alloc (.cells #[.int .u8 ((n1:Int)/4),.int .u16 B,.int .u8 n8,.int .u32 j,.int .u32 k,.int .u16 f,.int .u16 g] 42)) W.heap.size [.int .u8 ((n1:Int)/4),.int .u16 B,.int .u8 n8,.int .u32 j,.int .u32 k,.int .u16 f,.int .u16 g] 42):=aa (λW=>ag.new W [.int .u8 ((n1:Int)/4),.int .u16 B,.int .u8 n8,.int .u32 j,.int .u32 k,.int .u16 f,.int .u16 g] 42);clear he C D n hsz l m hT al o L K;go_enter Tryz.func24,Tryz.ntmps24;go_wp2_with fail;refine(HF.out _).mono ?_;rintro e w1 ⟨rfl,q⟩;have M:=aa (F.out.trans q);have N:=aa (E.out.kp q (λx=>x));clear q E F;go_wp2_with fail;refine ar 9 (by kernel_rfl) (λ_ _ _ _ _ h=>h) ?_;simp only[aO]
 repeat((first
    |refine ay (by rfl) (by as_aux_lemma=>intro W O;go_simp;exact rfl) ?_
    |refine ah (by rfl) ?_
    |refine aR (by rfl) (by as_aux_lemma=>intro W;go_simp;exact⟨rfl,rfl⟩) (by intro W O;with_reducible first|exact av.out W|exact ax.out W) ?_);simp only[Act.put,aH])
 intro W2 r;have t:=aa (M.out.trans r);have v:=aa (N.out.kp r (λx=>x));clear r M N;go_wp2_with fail;refine c5 [] [0,1,2,3,4,5,6,7,8,9,10,11,12,13,14,15] 16 17 (cj lA) 42 (by kernel_rfl) (by kernel_rfl) (λc a d u w h=>by cases d<;>exact h) rfl rfl (λ_ _=>by kernel_rfl) ?_;simp only[pick,aO];show dJ _ _ _ _ _ _
 repeat((first
    |refine ic (by exact rfl) 42 _ rfl (.agg #[.int .u8 ((n1:Int)/4),.int .u16 B,.int .u8 n8,.int .u32 j,.int .u32 k,.int .u16 f,.int .u16 g]) (λ_=>by kernel_rfl) ?_
    |refine ay (by rfl) (by as_aux_lemma=>intro W O;go_simp;exact rfl) ?_
    |refine ah (by rfl) ?_
    |refine aR (by rfl) (by as_aux_lemma=>intro W;go_simp;exact⟨rfl,rfl⟩) (by intro W O;with_reducible first|exact ak.out W|exact I.out W|exact J.out W|exact G.out W|exact H.out W) ?_);simp only[Act.put,aH])
 show ∀b W,_->_->_->wpList _ _ _ _ _ _;simp only[Act.put,aH];intro b3 W3 an Q y;have R:=aa Q;have S:=aa (t.out.trans y);have U:=aa (v.out.kp y (λx=>x));have ao:w.heap.size≠b3:=by have:=v.out.lt;omega
 have hle:w.heap.size<=b3:=by have:=t.out.size;omega
 clear Q y an t v;go_wp2_with(refine aV rfl 42 (.tmp 5) (.tmp 43) rfl R.out [.int .u8 ((n1:Int)/4),.int .u16 B,.int .u8 n8,.int .u32 j,.int .u32 k,.int .u16 f,.int .u16 g] rfl rfl rfl dO rfl ?_;intro W4 V z;have X:=aa V;have Y:=aa (U.out.kp z ao);have Z:Hid (Kp ae w W4):=aa (S.out.then z (λi h1 h2=>by omega));clear V z R U S);refine ar 4 (by kernel_rfl) (λ_ _ _ _ _ h=>h) ?_;simp only[aO]
 repeat((first
    |refine bc (by exact rfl) (fm X.out _ Tryz.underlying42 rfl dO rfl rfl) ?_
    |refine ay (by rfl) (by as_aux_lemma=>intro W O;go_simp;exact rfl) ?_
    |refine ah (by rfl) ?_
    |refine aR (by rfl) (by as_aux_lemma=>intro W;go_simp;exact⟨rfl,rfl⟩) (by intro W O;with_reducible first|exact aw.out W) ?_);simp only[Act.put,aH])
 intro W5 A;have ac:=aa (Z.out.trans A);have ad:=aa (Y.out.kp A (λx=>x));clear A Z Y X;go_wp2_with(refine aV rfl 42 (.tmp 2) (.tmp 44) rfl ad.out [.int .u8 ((n1:Int)/4),.int .u16 B,.int .u8 n8,.int .u32 j,.int .u32 k,.int .u16 f,.int .u16 g] rfl rfl rfl dO rfl ?_;intro W6 af ai;have aq:=aa af;have au:Hid (Kp ae w W6):=aa (ac.out.then ai (λi h1 h2=>by omega));clear af ai ad ac);refine jt (by exact rfl) aq.out _ Tryz.underlying42 rfl dO (by exact rfl) ⟨?_,au.out⟩;simp only[cj,m1];rfl
def ma(s:ByteArray)(a b:Nat):(s.extract a b).size=min b s.size-a:=by rw[<-aG,fD,HG,IU,aG];omega
def tn(s:ByteArray)(k x:Nat):bl (s.extract 0 k++tx (dT [x])++s.extract (k+2) s.size)=cutAt (bl s) k x:=by
 rw[dq,dq,fD,fD,cP];unfold cutAt;rw[JJ,Ir,IJ (l:=List.drop (k+2) (bl s)) (by rw[IU,aG];omega)];simp[dT]
def rZ(w:World)(x:Nat):Sl (w.alloc (.cells #[.int .u16 (x:Int)] 39)) (.slice (some ⟨w.heap.size,0,none⟩) 1 1) [x].length 1 (ke [x]):=
 ⟨rfl,by show(1:Nat)<=_;omega,_,_,rfl,λi u hu=>⟨_,0,rfl,by rw[HR];exact(ag.new w (ke [x]) 39).cell i hu⟩⟩
def ze(s:ByteArray)(k x:Nat)(V:s.size<=100000)(L:28<=s.size)(X:k+2<=28)(M:x<65536)(w:World):Calls Tryz.prog 88 #[.string s,.int .i64 k,.int .u16 x] w λe w'=>e=.returned (.string (tx (iw (bl s) k x)))/\Kp ae w w':=by
 have i:Hid (∀W,Calls Tryz.prog 45 #[.string s,.int .i64 10] W λe w'=>e=.returned (.int .u16 (hf (bl s) 10:Nat))/\Kp ae W w'):=aa (λW=>fR s 10 (by omega) (by omega) W);have t:=aa (λW=>fR s k (by omega) (by omega) W);have K:=aa (λW=>aF (FC (hf (bl s) 10) (hf (bl s) k) x (gA _ _) (gA _ _) M W));have d:qG (hf (bl s) 10) (hf (bl s) k) x<65536:=by unfold qG;omega
 have f:=tn s k x;have u:(s.extract 0 k).size=k:=by rw[ma];omega
 have z:(tx (dT [x])).size=2:=by rw[eb,rY];rfl
 have A:(s.extract (k+2) s.size).size=s.size-(k+2):=by rw[ma];omega
 have Y:=dB (P:=Tryz.prog) (s.extract 0 k) (tx (dT [x])) (by omega);have B:(s.extract 0 k++tx (dT [x])).size=k+2:=by rw[<-aG,dq,HK,aG,aG];omega
 have x2:=dB (P:=Tryz.prog) (s.extract 0 k++tx (dT [x])) (s.extract (k+2) s.size) (by omega);obtain⟨T,C⟩:∃T,s.extract 0 k++tx (dT [x])++s.extract (k+2) s.size=T:=⟨_,rfl⟩
 rw[C]at f x2
 have D:T.size=s.size:=by rw[<-C,<-aG,dq,HK,aG,aG];omega
 have j:=d;obtain⟨y,hy⟩:∃y,qG (hf (bl s) 10) (hf (bl s) k) x=y:=⟨_,rfl⟩
 rw[hy]at j
 have a:=tn T 10 y;rw[f,<-hy]at a
 have E:(T.extract 0 10).size=10:=by rw[ma];omega
 have F:(tx (dT [y])).size=2:=by rw[eb,rY];rfl
 have G:(T.extract 12 T.size).size=T.size-12:=by rw[ma];omega
 have Z:=dB (P:=Tryz.prog) (T.extract 0 10) (tx (dT [y])) (by omega);have H:(T.extract 0 10++tx (dT [y])).size=12:=by rw[<-aG,dq,HK,aG,aG];omega
 have y2:=dB (P:=Tryz.prog) (T.extract 0 10++tx (dT [y])) (T.extract 12 T.size) (by omega);have N:Hid (∀W v,Sl W v 1 1 (ke [x])->Calls Tryz.prog 52 #[v] W λe w'=>e=.returned (.string (tx (dT [x])))/\Kp ae W w'):=aa (λW v h=>o8 [x] (λn I=>by simp at I;omega) (Nat.zero_lt_one) (by show 1<=_;omega) v W h);have O:Hid (∀W v,Sl W v 1 1 (ke [y])->Calls Tryz.prog 52 #[v] W λe w'=>e=.returned (.string (tx (dT [y])))/\Kp ae W w'):=aa (λW v h=>o8 [y] (λn I=>by simp at I;omega) (Nat.zero_lt_one) (by show 1<=_;omega) v W h);rw[hy]at K
 have c:Hid (tx (iw (bl s) k x)=T.extract 0 10++tx (dT [y])++T.extract 12 T.size):=by
  show _=_;apply j1;have:=a;rw[hy]at this
  rw[cP];unfold iw;rw[hy];exact this.symm
 rw[c.out];have b2:(k:Int)+2<=s.size:=by omega
 have b3:(k:Int)<=s.size:=by omega
 have b4:IntKind.i64.wrap ((k:Int)+2)=(k:Int)+2:=I4 _ (by omega);have b5:((k:Int)+2).toNat=k+2:=by omega
 have Q:(10:Int)<=T.size:=by omega
 have R:(12:Int)<=T.size:=by omega
 clear c a f C D u z A B E F G H hy;go_enter Tryz.func88,Tryz.ntmps88;go_wp2_with fail;refine(i.out _).mono ?_;rintro e w1 ⟨rfl,l⟩;have m:=aa l;clear l;go_wp2_with fail;refine(t.out _).mono ?_;rintro e w2 ⟨rfl,o⟩;have p:=aa (m.out.trans o);clear o m;go_wp2_with fail;refine(K.out _).mono ?_;rintro e w3 ⟨rfl,q⟩;have r:=aa (p.out.trans q);clear q p;go_wp2_with fail;go_cut [0]from 15 (λS wc=>S=.string T/\Hid (Kp ae w wc))
 case first=>
  go_region_with (go_at_call 52;refine(N.out _ _ (by first|exact rZ _ x|exact(rZ _ x).old (Kp.drew (Kp.refl _ _)))).mono ?_;rintro e U ⟨rfl,b⟩;have g:=aa (((r.out.alloc (.cells #[.int .u16 (x:Int)] 39)).drew).trans b);clear b)
  all_goals
   go_wp2_with fail;go_meet
   case rel=>exact⟨rfl,g⟩
 case rest=>
  obtain⟨rfl,J⟩:=hcut;clear r;go_wp2_with fail;go_region_with (go_at_call 52;refine(O.out _ _ (by first|exact rZ _ y|exact(rZ _ y).old (Kp.drew (Kp.refl _ _)))).mono ?_;rintro e U ⟨rfl,b⟩;have g:=aa (((J.out.alloc (.cells #[.int .u16 (y:Int)] 39)).drew).trans b);clear b)
  all_goals
   go_wp2;go_ret;exact⟨rfl,g.out⟩
def mU{l:List UInt8}:aS l≠0->aS l=2\/aS l=3\/aS l=11:=by
 unfold aS;split
 ·exact λ_=>.inl rfl
 ·split
  ·exact λ_=>.inr (.inl rfl)
  ·split
   ·exact λh=>absurd rfl h
   ·exact λ_=>.inr (.inr rfl)
def Bj(s:ByteArray)(l:s.size<=100000)(he:ef (bl s)≠0)(w:World):Calls Tryz.prog 58 #[.string s] w λe w'=>e=.returned (.tuple #[.string ⟨#[]⟩,.int .i64 (ef (bl s))])/\Kp ae w w':=by
 by_cases b:aS (bl s)=0
 ·have q:28<=s.size:=by have:=(ft b).1;rwa [aG]at this
  have j:(bl s).getD 8 0=s[8]:=gd s 8 (by omega);have m:s[8].toNat<2:=by
   unfold ef at he;rw[Hk (λh=>h b),j]at he
   by_cases n:s[8].toNat<2
   ·exact n
   ·rw[Hk n]at he;exact absurd rfl he
  have k:ef (bl s)=21:=by unfold ef;rw[Hk (λh=>h b),j,Hl m]
  have g:=aa (λW=>dC s l b W);have d:(aL (bl s)).bG=s[8].toNat:=by unfold aL;rw[j]
  obtain⟨H,o⟩:∃H,aL (bl s)=H:=⟨_,rfl⟩
  rw[o]at g d
  have r:(H.bG:Int)<2:=by rw[d];omega
  rw[k];clear he m d o j;go_enter Tryz.func58,Tryz.ntmps58;go_wp2_with fail;refine(g.out _).mono ?_;rintro e w1 ⟨rfl,a⟩;have f:=aa (a.alloc (.cells (cj H).toArray 42));clear a;simp only[cj]at*;go_wp2_with fail;go_ret2;exact⟨rfl,f.out⟩
 ·have k:ef (bl s)=aS (bl s):=by unfold ef;rw[Hl b]
  have g:=aa (λW=>l_ s l b W);have p:=mU b;rw[k];obtain⟨c,i⟩:∃c,aS (bl s)=c:=⟨_,rfl⟩
  rw[i]at g p ⊢
  have t:¬c=0:=by omega
  clear he b k i p;go_enter Tryz.func58,Tryz.ntmps58;go_wp2_with fail;refine(g.out _).mono ?_;rintro e w1 ⟨rfl,a⟩;have f:=aa (a.alloc (.cells (cj lA).toArray 42));clear a;simp only[cj,lA]at*;go_wp2_with fail;go_ret2;exact⟨rfl,f.out⟩
def Bk{l:List UInt8}(h:ef l=0):aS l=0/\2<=(l.getD 8 0).toNat:=by
 unfold ef at h;split at h
 ·rename_i a;exact absurd h a
 ·rename_i a;have a:aS l=0:=Decidable.of_not_not a;split at h
  ·cases h
  ·exact⟨a,by omega⟩
def mc(s:ByteArray)(q:s.size<=100000)(he:ef (bl s)=0)(w:World):Calls Tryz.prog 58 #[.string s] w λe w'=>e=.returned (.tuple #[.string (tx (dw (bl s))),.int .i64 0])/\Kp ae w w':=by
 obtain⟨h,r⟩:=Bk he;have i:28<=s.size:=by have:=(ft h).1;rwa [aG]at this
 have j:(bl s).getD 8 0=s[8]:=gd s 8 (by omega);rw[j]at r
 have t:=aa (λW=>dC s q h W);have a:(aL (bl s)).bG=s[8].toNat:=by unfold aL;rw[j]
 have k:512<=hf (bl s) 8:=by unfold hf;rw[gd s 8 (by omega)];omega
 have l:=gA (bl s) 8;have u:Hid (∀W,Calls Tryz.prog 45 #[.string s,.int .i64 8] W λe w'=>e=.returned (.int .u16 (hf (bl s) 8:Nat))/\Kp ae W w'):=aa (λW=>fR s 8 (by omega) (by omega) W);have b:=λW=>ze s 8 (hf (bl s) 8-256) q i (by omega) (by omega) W;rw[show((hf (bl s) 8-256:Nat):Int)=((hf (bl s) 8:Nat):Int)-256 by omega]at b
 have c:Hid (∀W,Calls Tryz.prog 88 #[.string s,.int .i64 8,.int .u16 (((hf (bl s) 8:Nat):Int)-256)] W λe w'=>e=.returned (.string (tx (dw (bl s))))/\Kp ae W w'):=aa b;obtain⟨T,v⟩:∃T,tx (dw (bl s))=T:=⟨_,rfl⟩
 rw[v]at c ⊢
 obtain⟨H,x⟩:∃H,aL (bl s)=H:=⟨_,rfl⟩
 rw[x]at t a
 have z:¬(H.bG:Int)<2:=by rw[a];omega
 obtain⟨n,y⟩:∃n,hf (bl s) 8=n:=⟨_,rfl⟩
 rw[y]at u c k l
 clear he r a x j h b v y;go_enter Tryz.func58,Tryz.ntmps58;go_wp2_with fail;refine(t.out _).mono ?_;rintro e w1 ⟨rfl,d⟩;have m:=aa (d.alloc (.cells (cj H).toArray 42));clear d;simp only[cj]at*;go_wp2_with fail;refine(u.out _).mono ?_;rintro e A ⟨rfl,f⟩;have o:=aa (m.out.trans f);clear f;go_wp2_with fail;refine(c.out _).mono ?_;rintro e w3 ⟨rfl,g⟩;have p:=aa (o.out.trans g);clear g;go_wp2_with fail;go_ret2;exact⟨rfl,p.out⟩
def gD(l:List UInt8)(d:Nat):List UInt8:=if kc l d=0 then uE l d else[]
def zf(s:ByteArray)(d:Nat)(n:s.size<=100000)(hd:d<256)(w:World):Calls Tryz.prog 60 #[.string s,.int .u8 d] w λe w'=>e=.returned (.tuple #[.string (tx (gD (bl s) d)),.int .i64 (kc (bl s) d)])/\Kp ae w w':=by
 by_cases q:63<d
 ·have b:kc (bl s) d=6:=by unfold kc;rw[Hl q]
  have g:tx (gD (bl s) d)=⟨#[]⟩:=by unfold gD;rw[b];rfl
  rw[b,g];have hi:(63:Int)<d:=by omega
  clear b g;go_enter Tryz.func60,Tryz.ntmps60;go_wp2;go_ret2;exact⟨rfl,Kp.refl _ _⟩
 ·have b:kc (bl s) d=aS (bl s):=by unfold kc;rw[Hk q]
  have hi:¬(63:Int)<d:=by omega
  by_cases f:aS (bl s)=0
  ·have g:gD (bl s) d=iw (bl s) 0 (17664+d*4):=by unfold gD;rw[b,Hl f];rfl
   rw[b,f,g];have o:28<=s.size:=by have:=(ft f).1;rwa [aG]at this
   have j:=aa (λW=>dC s n f W);have h:=λW=>ze s 0 (17664+d*4) n o (by omega) (by omega) W;rw[show((17664+d*4:Nat):Int)=17664+(d:Int)*4 by omega]at h
   have k:Hid (∀W,Calls Tryz.prog 88 #[.string s,.int .i64 0,.int .u16 (17664+(d:Int)*4)] W λe w'=>e=.returned (.string (tx (iw (bl s) 0 (17664+d*4))))/\Kp ae W w'):=aa h;obtain⟨T,r⟩:∃T,tx (iw (bl s) 0 (17664+d*4))=T:=⟨_,rfl⟩
   rw[r]at k ⊢
   obtain⟨H,t⟩:∃H,aL (bl s)=H:=⟨_,rfl⟩
   rw[t]at j
   clear f h r g b t;go_enter Tryz.func60,Tryz.ntmps60;go_wp2_with fail;refine(j.out _).mono ?_;rintro e w1 ⟨rfl,a⟩;have i:=aa (a.alloc (.cells (cj H).toArray 42));clear a;simp only[cj]at*;go_wp2_with fail;refine(k.out _).mono ?_;rintro e w3 ⟨rfl,l⟩;have p:=aa (i.out.trans l);clear l;go_wp2_with fail;go_ret2;exact⟨rfl,p.out⟩
  ·have j:=aa (λW=>l_ s n f W);have g:tx (gD (bl s) d)=⟨#[]⟩:=by unfold gD;rw[b,Hk f];rfl
   have u:=mU f;rw[b,g];obtain⟨c,m⟩:∃c,aS (bl s)=c:=⟨_,rfl⟩
   rw[m]at j u ⊢
   have v:¬c=0:=by omega
   clear f b m u g;go_enter Tryz.func60,Tryz.ntmps60;go_wp2_with fail;refine(j.out _).mono ?_;rintro e w1 ⟨rfl,a⟩;have i:=aa (a.alloc (.cells (cj lA).toArray 42));clear a;simp only[cj,lA]at*;go_wp2_with fail;go_ret2;exact⟨rfl,i.out⟩
end
section
open Go Go.RowKit Go.Conc
structure iz (w:World) (bb cb cap:Nat) (l:List ByteArray):Prop where
 top:ag w bb [.chan (some cb),.bool false] 132
 ch:∃s r,w.heap[cb]? =some (.chan cap (strs l).toArray false s r false)
 ne:bb≠cb
def tp(w:World)(c cap:Nat)(buf:Array Value)(cl:Bool)(s r:Nat)(tm:Bool):Kp (λb=>b=c) w (w.setChan c cap buf cl s r tm):=
 ⟨rfl,rfl,rfl,by simp[World.setChan],λb _ a=>by simp[World.setChan,Array.getElem?_setIfInBounds_ne (λe=>a e.symm)]⟩
def iz.kp{T:Nat->Prop}{w w':World}{bb cb cap:Nat}{l:List ByteArray}(h:iz w bb cb cap l)(k:Kp T w w')(b:¬T bb)(c:¬T cb):iz w' bb cb cap l:=by
 obtain⟨s,r,a⟩:=h.ch;exact⟨h.top.kp k b,⟨s,r,(k.block cb (Ih.1 a).1 c).trans a⟩,h.ne⟩
def iz.old{w w':World}{bb cb cap:Nat}{l:List ByteArray}(h:iz w bb cb cap l)(k:Kp ae w w'):iz w' bb cb cap l:=h.kp k (λx=>x) (λx=>x)
def C0(c:Nat)(w:World):(binOp .neq 130 (.chan (some c)) (.chan none)).run Tryz.prog w=.ok (.bool true) w:=by kernel_rfl
def DR{w:World}{bb cb cap:Nat}{l:List ByteArray}(h:iz w bb cb cap l)(a:l.length<cap)(x:ByteArray):
    Calls Tryz.prog 26 #[.pointer (some ⟨bb,0,none⟩),.string x] w λe w'=>e=.returned (.bool true)/\iz w' bb cb cap (l++[x])/\Kp (λb=>b=cb) w w':=by
 obtain⟨s,r,d⟩:=h.ch;have c0:=h.top.ai;have c1:=h.top.aj;have g:=C0 cb;refine calls_of_loneTo λcs=> ?_;have e:Frame.enter Tryz.prog 26 #[.pointer (some ⟨bb,0,none⟩),.string x] .normal=(base 26).at ⟨#[.pointer (some ⟨bb,0,none⟩),.string x,undef,undef,undef,undef,undef,undef,undef,undef,undef,undef,undef,undef,undef,undef],[]⟩ [.code (Tryz.f26.body.getD .skip)]:=by
  simp[Frame.enter,Frame.at,Tryz.func26,base,Tryz.f26];try rfl
 rw[e];refine LoneTo.goes (n:=60) ?_;simp only[Tryz.f26,I3]
 s_c stepG_seq
 s_reg
 s_op
 s_c stepG_region_end
 s_c stepG_seq
 s_c stepG_seq
 s_reg
 s_op
 s_call Tryz.func51 (by kernel_rfl) Tryz.f51
 s_c stepG_seq
 s_reg
 s_op
 s_c stepG_region_end
 s_c stepG_seq
 s_reg
 s_op
 s_op
 s_op
 s_op
 s_op
 s_op
 s_op
 s_op
 s_op
 s_op
 s_op
 s_op
 s_op
 s_op
 s_op
 s_op
 s_op
 s_c stepG_region_end
 s_c stepG_ret'
 s_leave1 Tryz.func51
 s_op
 s_c stepG_region_end
 s_cond false
 s_c stepG_skip
 s_c stepG_seq
 s_c stepG_seq
 s_reg
 s_op
 s_op
 s_op
 s_op
 s_c stepG_region_end
 s_reg
 s_op
 s_c stepG_region_end
 s_c stepG_seq
 s_reg
 s_stop
 refine LoneTo.step (step_lone_select_send_room (c:=cb) (cap:=cap) (buf:=(strs l).toArray) (s:=s) (r:=r) (tm:=false) (stepG_comm (cases:=#[scase cb (.string x) (.string ⟨#[]⟩)]) (blocking:=false) (shape:=.select) (w':=w) rfl rfl (by decide) (by simp[go_sem,execOp,scase,rcase,Act.eval])) d (by rw[HY,qn];exact a)) ?_;rw[Kn]
 walk_nrm
 refine LoneTo.goes (n:=20) ?_
 s_op
 s_op
 s_c stepG_region_end
 s_c stepG_block
 s_cond true
 s_c stepG_seq
 s_reg
 s_op
 s_c stepG_region_end
 s_c stepG_ret'
 s_stop
 refine LoneTo.done ⟨.returned (.bool true),_,rfl,⟨rfl,?_⟩,rfl,rfl,rfl,rfl,_,Tryz.func26,by simp[results,Tryz.f26,Frame.at]⟩;have i:cb<w.heap.size:=(Ih.1 d).1;have f:=tp w cb cap ((strs l++[Value.string x]).toArray) false (s+1) r false;exact⟨⟨h.top.kp f h.ne,⟨s+1,r,by rw[heap_setChan _ _ _ _ _ _ _ _ i,jh]⟩,h.ne⟩,f⟩
def uS{w:World}{bb cb cap:Nat}{l:List ByteArray}(h:iz w bb cb cap l)(a:cap<=l.length)(x:ByteArray):
    Calls Tryz.prog 26 #[.pointer (some ⟨bb,0,none⟩),.string x] w λe w'=>e=.returned (.bool false)/\w=w':=by
 obtain⟨s,r,b⟩:=h.ch;have c0:=h.top.ai;have c1:=h.top.aj;have d:=C0 cb;refine calls_of_loneTo λcs=> ?_;have e:Frame.enter Tryz.prog 26 #[.pointer (some ⟨bb,0,none⟩),.string x] .normal=(base 26).at ⟨#[.pointer (some ⟨bb,0,none⟩),.string x,undef,undef,undef,undef,undef,undef,undef,undef,undef,undef,undef,undef,undef,undef],[]⟩ [.code (Tryz.f26.body.getD .skip)]:=by
  simp[Frame.enter,Frame.at,Tryz.func26,base,Tryz.f26];try rfl
 rw[e];refine LoneTo.goes (n:=60) ?_;simp only[Tryz.f26,I3]
 s_c stepG_seq
 s_reg
 s_op
 s_c stepG_region_end
 s_c stepG_seq
 s_c stepG_seq
 s_reg
 s_op
 s_call Tryz.func51 (by kernel_rfl) Tryz.f51
 s_c stepG_seq
 s_reg
 s_op
 s_c stepG_region_end
 s_c stepG_seq
 s_reg
 s_op
 s_op
 s_op
 s_op
 s_op
 s_op
 s_op
 s_op
 s_op
 s_op
 s_op
 s_op
 s_op
 s_op
 s_op
 s_op
 s_op
 s_c stepG_region_end
 s_c stepG_ret'
 s_leave1 Tryz.func51
 s_op
 s_c stepG_region_end
 s_cond false
 s_c stepG_skip
 s_c stepG_seq
 s_c stepG_seq
 s_reg
 s_op
 s_op
 s_op
 s_op
 s_c stepG_region_end
 s_reg
 s_op
 s_c stepG_region_end
 s_c stepG_seq
 s_reg
 s_stop
 refine LoneTo.step (step_lone_select_send_full (c:=cb) (cap:=cap) (buf:=(strs l).toArray) (s:=s) (r:=r) (tm:=false) (stepG_comm (cases:=#[scase cb (.string x) (.string ⟨#[]⟩)]) (blocking:=false) (shape:=.select) (w':=w) rfl rfl (by decide) (by simp[go_sem,execOp,scase,rcase,Act.eval])) b (by rw[HY,qn];exact a)) ?_;rw[Kn]
 walk_nrm
 refine LoneTo.goes (n:=20) ?_
 s_op
 s_op
 s_c stepG_region_end
 s_c stepG_block
 s_cond false
 s_c stepG_seq
 s_reg
 s_op
 s_c stepG_region_end
 s_c stepG_ret'
 s_stop
 refine LoneTo.done ⟨.returned (.bool false),_,rfl,⟨rfl,?_⟩,rfl,rfl,rfl,rfl,_,Tryz.func26,by simp[results,Tryz.f26,Frame.at]⟩;rfl
def DS{w:World}{bb cb cap:Nat}{l:List ByteArray}(y:ByteArray)(h:iz w bb cb cap (y::l)):
    Calls Tryz.prog 85 #[.pointer (some ⟨bb,0,none⟩)] w λe w'=>e=.returned (.tuple #[.string y,.bool true])/\iz w' bb cb cap l/\Kp (λb=>b=cb) w w':=by
 obtain⟨s,r,a⟩:=h.ch;have c0:=h.top.ai;have a:w.heap[cb]? =some (.chan cap (Value.string y::strs l).toArray false s r false):=a;have f:(Value.string y::strs l).toArray.getD 0 undef=.string y:=by simp
 have g:(Value.string y::strs l).toArray.extract 1 (Value.string y::strs l).toArray.size=(strs l).toArray:=by simp
 refine calls_of_loneTo λcs=> ?_;have e:Frame.enter Tryz.prog 85 #[.pointer (some ⟨bb,0,none⟩)] .normal=(base 85).at ⟨#[.pointer (some ⟨bb,0,none⟩),undef,undef,undef,undef,undef,undef,undef,undef,undef,undef,undef,undef,undef,undef,undef,undef,undef,undef,undef,undef,undef],[]⟩ [.code (Tryz.f85.body.getD .skip)]:=by
  simp[Frame.enter,Frame.at,Tryz.func85,base,Tryz.f85];try rfl
 rw[e];refine LoneTo.goes (n:=60) ?_;simp only[Tryz.f85,I3]
 s_c stepG_seq
 s_reg
 s_op
 s_op
 s_c stepG_region_end
 s_c stepG_seq
 s_reg
 s_op
 s_c stepG_region_end
 s_c stepG_seq
 s_c stepG_seq
 s_reg
 s_op
 s_op
 s_c stepG_region_end
 s_cond false
 s_c stepG_skip
 s_c stepG_seq
 s_reg
 s_op
 s_op
 s_op
 s_op
 s_c stepG_region_end
 s_c stepG_seq
 s_reg
 s_stop
 refine LoneTo.step (step_lone_select_recv_buf (c:=cb) (z:=.string ⟨#[]⟩) (cap:=cap) (buf:=(Value.string y::strs l).toArray) (closed:=false) (s:=s) (r:=r) (tm:=false) (stepG_comm (cases:=#[rcase cb (.string ⟨#[]⟩)]) (blocking:=false) (shape:=.select) (w':=w) rfl rfl (by decide) (by simp[go_sem,execOp,scase,rcase,Act.eval])) a (by simp)) ?_;rw[Kn];rw[f,g]
 walk_nrm
 refine LoneTo.goes (n:=30) ?_
 s_op
 s_op
 s_c stepG_region_end
 s_c stepG_block
 s_cond true
 s_c stepG_seq
 s_reg
 s_op
 s_op
 s_op
 s_op
 s_c stepG_region_end
 s_c stepG_seq
 s_reg
 s_op
 s_op
 s_op
 s_op
 s_c stepG_region_end
 s_c stepG_ret'
 s_stop
 refine LoneTo.done ⟨.returned (.tuple #[.string y,.bool true]),_,rfl,⟨rfl,?_⟩,rfl,rfl,rfl,rfl,_,Tryz.func85,by simp[results,Tryz.f85,Frame.at]⟩;have i:cb<w.heap.size:=(Ih.1 a).1;have d:=tp w cb cap (strs l).toArray false s (r+1) false;exact⟨⟨h.top.kp d h.ne,⟨s,r+1,heap_setChan _ _ _ _ _ _ _ _ i⟩,h.ne⟩,d⟩
def uT{w:World}{bb cb cap:Nat}{l:List ByteArray}(h:iz w bb cb cap []):
    Calls Tryz.prog 85 #[.pointer (some ⟨bb,0,none⟩)] w λe w'=>e=.returned (.tuple #[.string ⟨#[]⟩,.bool false])/\w=w':=by
 obtain⟨s,r,a⟩:=h.ch;have c0:=h.top.ai;refine calls_of_loneTo λcs=> ?_;have e:Frame.enter Tryz.prog 85 #[.pointer (some ⟨bb,0,none⟩)] .normal=(base 85).at ⟨#[.pointer (some ⟨bb,0,none⟩),undef,undef,undef,undef,undef,undef,undef,undef,undef,undef,undef,undef,undef,undef,undef,undef,undef,undef,undef,undef,undef],[]⟩ [.code (Tryz.f85.body.getD .skip)]:=by
  simp[Frame.enter,Frame.at,Tryz.func85,base,Tryz.f85];try rfl
 rw[e];refine LoneTo.goes (n:=60) ?_;simp only[Tryz.f85,I3]
 s_c stepG_seq
 s_reg
 s_op
 s_op
 s_c stepG_region_end
 s_c stepG_seq
 s_reg
 s_op
 s_c stepG_region_end
 s_c stepG_seq
 s_c stepG_seq
 s_reg
 s_op
 s_op
 s_c stepG_region_end
 s_cond false
 s_c stepG_skip
 s_c stepG_seq
 s_reg
 s_op
 s_op
 s_op
 s_op
 s_c stepG_region_end
 s_c stepG_seq
 s_reg
 s_stop
 refine LoneTo.step (step_lone_select_default (c:=cb) (z:=.string ⟨#[]⟩) (cap:=cap) (s:=s) (r:=r) (tm:=false) (stepG_comm (cases:=#[rcase cb (.string ⟨#[]⟩)]) (blocking:=false) (shape:=.select) (w':=w) rfl rfl (by decide) (by simp[go_sem,execOp,scase,rcase,Act.eval])) a) ?_;rw[Kn]
 walk_nrm
 refine LoneTo.goes (n:=30) ?_
 s_op
 s_op
 s_c stepG_region_end
 s_c stepG_block
 s_cond false
 s_c stepG_seq
 s_reg
 s_op
 s_op
 s_op
 s_c stepG_region_end
 s_c stepG_ret'
 s_stop
 refine LoneTo.done ⟨.returned (.tuple #[.string ⟨#[]⟩,.bool false]),_,rfl,⟨rfl,?_⟩,rfl,rfl,rfl,rfl,_,Tryz.func85,by simp[results,Tryz.f85,Frame.at]⟩;rfl
end
section
open Go Go.RowKit Go.Shelf
def iS(a b:ByteArray):(a++b).size=a.size+b.size:=by rw[<-aG,dq,HK,aG,aG]
def mf(l:List Nat):(tx (dT l)).size=2*l.length:=by rw[eb,rY]
def pA(h:e_)(n:Nat):List Nat:=[17664+h.ds*4,n+28,h.id,0,h.bG*256+17]
def pB(h:e_):List Nat:=[h.s/65536,h.s%65536,h.d/65536,h.d%65536]
def pD(h:e_)(n:Nat):List Nat:=[h.sp,h.p,n+8,0]
def zg(h:e_)(n:Nat):bl (tx (dT (pA h n))++⟨#[0,0]⟩++tx (dT (pB h)))=ih h n++([0,0]++kb h):=by
 rw[dq,dq,cP,cP];have e:bl ⟨#[0,0]⟩=[0,0]:=rfl;rw[e];simp only[dT,pA,pB,ih,kb,Iv,Ko,HH,Ir]
def zh(h:e_)(b:ByteArray):tx (dT (pA h b.size))++tx (dT [gz (ih h b.size++([0,0]++kb h))])++tx (dT (pB h))++tx (dT (pD h b.size))++b=tx (eP h (bl b)):=by
 apply j1;rw[dq,dq,dq,dq,cP,cP,cP,cP,cP];unfold eP;rw[aG];simp only[dT,pA,pB,pD,ih,kb,Iv,Ko,HH,Ir]
def ij(l:List Nat)(a:∀x∈l,x<65536)(b:0<l.length)(c:l.length<=1000)(W:World):Calls Tryz.prog 52 #[.slice (some ⟨W.heap.size,0,none⟩) l.length l.length] (W.alloc (.cells (ke l).toArray 39)) λe w'=>e=.returned (.string (tx (dT l)))/\Kp ae W w':=by
 refine(o8 l a b c _ _ ⟨by simp[ke],by omega,_,_,rfl,λi u hu=>⟨_,0,rfl,by rw[HR];exact(ag.new W (ke l) 39).cell i hu⟩⟩).mono ?_;rintro e w' ⟨d,f⟩;exact⟨d,((Kp.refl ae W).alloc _).trans f⟩
def r0(h:e_)(v:h.Fit)(hd:h.ds<=63)(b:ByteArray)(hb:b.size<=65507)(w:World):
    Calls Tryz.prog 27 #[.agg (cj h).toArray,.string b] w λe w'=>e=.returned (.tuple #[.string (tx (eP h (bl b))),.int .i64 0])/\Kp ae w w':=by
 have q1:=v.ok.s;have q2:=v.ok.d;have q3:=v.ok.p;have q4:=v.id;have q5:=v.bG;have q6:=v.sp;have y:=ij (pA h b.size) (λx j=>by simp only[pA,Ho,H5,Ia]at j;omega) (by show 0<5;decide) (by show 5<=_;decide);have z:=ij (pB h) (λx j=>by simp only[pB,Ho,H5,Ia]at j;omega) (by show 0<4;decide) (by show 4<=_;decide);have A:=ij (pD h b.size) (λx j=>by simp only[pD,Ho,H5,Ia]at j;omega) (by show 0<4;decide) (by show 4<=_;decide);have B:=zg h b.size;have k:=zh h b;have sA:=mf (pA h b.size);have sB:=mf (pB h);have M:=mf (pD h b.size);obtain⟨I,N⟩:∃I,gz (ih h b.size++([0,0]++kb h))=I:=⟨_,rfl⟩
 have aj:I<65536:=by rw[<-N];exact xg _
 have O:=ij [I] (λx j=>by simp only[Ho,H5,Ia]at j;omega) (by show 0<1;decide) (by show 1<=_;decide);have Q:=mf [I];rw[N]at k
 obtain⟨a,eA⟩:∃t,tx (dT (pA h b.size))=t:=⟨_,rfl⟩
 obtain⟨g,eB⟩:∃t,tx (dT (pB h))=t:=⟨_,rfl⟩
 obtain⟨i,eC⟩:∃t,tx (dT [I])=t:=⟨_,rfl⟩
 obtain⟨C,eD⟩:∃t,tx (dT (pD h b.size))=t:=⟨_,rfl⟩
 rw[eA]at y B k sA
 rw[eB]at z B k sB
 rw[eC]at O k Q
 rw[eD]at A k M
 have sA:a.size=10:=sA;have sB:g.size=8:=sB;have Q:i.size=2:=Q;have M:C.size=8:=M;have x1:=dB (P:=Tryz.prog) a ⟨#[0,0]⟩ (by rw[sA];show 10+2<=_;decide);have s1:(a++⟨#[0,0]⟩:ByteArray).size=12:=by rw[iS,sA];rfl
 have x2:=dB (P:=Tryz.prog) (a++⟨#[0,0]⟩) g (by rw[s1,sB];decide);have x3:=dB (P:=Tryz.prog) a i (by omega);have s3:(a++i).size=12:=by rw[iS];omega
 have x4:=dB (P:=Tryz.prog) (a++i) g (by omega);have s4:(a++i++g).size=20:=by rw[iS];omega
 have x5:=dB (P:=Tryz.prog) (a++i++g) C (by omega);have s5:(a++i++g++C).size=28:=by rw[iS];omega
 have x6:=dB (P:=Tryz.prog) (a++i++g++C) b (by omega);obtain⟨T,l⟩:∃T,a++⟨#[0,0]⟩++g=T:=⟨_,rfl⟩
 rw[l]at B x2
 have R:T.size=20:=by rw[<-l,iS];omega
 have m:=λW=>aF (uO T (by omega) W);rw[B,N]at m
 have S:=aa m;rw[<-k];clear k B N l R m eA eB eC eD s1 s3 s4 s5 sA sB Q M;obtain⟨ds,id,bG,s,d,sp,p⟩:=h;simp only[pA,pB,pD,ke,HA,Ik,Hs,Jj]at y z O A;simp only at q1 q2 q3 q4 q5 q6 hd;rw[show((17664+ds*4:Nat):Int)=17664+(ds:Int)*4 by omega,show((b.size+28:Nat):Int)=(b.size:Int)+28 by omega,show((bG*256+17:Nat):Int)=(bG:Int)*256+17 by omega]at y
 have ai:Hid (∀W,Calls Tryz.prog 52 #[.slice (some ⟨W.heap.size,0,none⟩) 5 5] (W.alloc (.cells #[.int .u16 (17664+(ds:Int)*4),.int .u16 ((b.size:Int)+28),.int .u16 id,.int .u16 0,.int .u16 ((bG:Int)*256+17)] 39)) λe w'=>e=.returned (.string a)/\Kp ae W w'):=aa y;rw[show((s/65536:Nat):Int)=(s:Int)/65536 by omega,show((s%65536:Nat):Int)=(s:Int)%65536 by omega,show((d/65536:Nat):Int)=(d:Int)/65536 by omega,show((d%65536:Nat):Int)=(d:Int)%65536 by omega]at z
 have ak:Hid (∀W,Calls Tryz.prog 52 #[.slice (some ⟨W.heap.size,0,none⟩) 4 4] (W.alloc (.cells #[.int .u16 ((s:Int)/65536),.int .u16 ((s:Int)%65536),.int .u16 ((d:Int)/65536),.int .u16 ((d:Int)%65536)] 39)) λe w'=>e=.returned (.string g)/\Kp ae W w'):=aa z;have al:Hid (∀W,Calls Tryz.prog 52 #[.slice (some ⟨W.heap.size,0,none⟩) 1 1] (W.alloc (.cells #[.int .u16 I] 39)) λe w'=>e=.returned (.string i)/\Kp ae W w'):=aa O;rw[show((b.size+8:Nat):Int)=(b.size:Int)+28-20 by omega]at A
 have an:Hid (∀W,Calls Tryz.prog 52 #[.slice (some ⟨W.heap.size,0,none⟩) 4 4] (W.alloc (.cells #[.int .u16 sp,.int .u16 p,.int .u16 ((b.size:Int)+28-20),.int .u16 0] 39)) λe w'=>e=.returned (.string C)/\Kp ae W w'):=aa A;clear y z O A;have i1:¬(63:Int)<ds:=by omega
 have i2:¬(65507:Int)<b.size:=by omega
 have D:=aa (ag.new w [.int .u8 ds,.int .u16 id,.int .u8 bG,.int .u32 s,.int .u32 d,.int .u16 sp,.int .u16 p] 42);have E:=aa ((Kp.refl ae w).alloc (.cells #[.int .u8 ds,.int .u16 id,.int .u8 bG,.int .u32 s,.int .u32 d,.int .u16 sp,.int .u16 p] 42));simp only[cj];go_enter Tryz.func27,Tryz.ntmps27;go_wp2_with fail;have ha:=ai.out (w.alloc (.cells #[.int .u8 ds,.int .u16 id,.int .u8 bG,.int .u32 s,.int .u32 d,.int .u16 sp,.int .u16 p] 42));rw[HB]at ha
 refine ha.mono ?_;clear ha;rintro e w1 ⟨rfl,n⟩;have F:=aa (E.out.trans n);have c:=aa (D.out.kp n (λx=>x));clear n D E ai;have U:=c.out.aK;have V:=c.out.a_;have X:=c.out.bN;have Y:=c.out.du;go_wp2_with fail;refine(ak.out _).mono ?_;rintro e w2 ⟨rfl,o⟩;have G:=aa (F.out.trans o);have H:=aa (c.out.kp o (λx=>x));clear U V X Y o c F;go_wp2_with fail;refine(S.out _).mono ?_;rintro e w3 ⟨rfl,q⟩;have J:=aa (G.out.trans q);have K:=aa (H.out.kp q (λx=>x));clear q H G;go_wp2_with fail;refine(al.out _).mono ?_;rintro e w4 ⟨rfl,r⟩;have L:=aa (J.out.trans r);have f:=aa (K.out.kp r (λx=>x));clear r K J;have Z:=f.out.aK;have ac:=f.out.a_;have ad:=f.out.bN;have af:=f.out.du;go_wp2_with fail;refine(an.out _).mono ?_;rintro e w5 ⟨rfl,u⟩;have ah:=aa (L.out.trans u);have ao:=aa (f.out.kp u (λx=>x));clear Z ac ad af u f L;go_wp2_with fail;go_ret2;exact⟨rfl,ah.out⟩
end
end Go.Proofs.YtincjochpkdnfaaGreatDoor
