/- slices.Compact of a rising row of numbers: each of them once. -/
import Derived.Test.YtincjochpkdnfaaGreatDoorV12
import Derived.Test.YtincjochpkdnfaaGreatDoorV18
import Derived.Test.YtincjochpkdnfaaGreatDoorShelfRu
set_option linter.all false
set_option maxHeartbeats 8000000
set_option maxRecDepth 100000
namespace Go.Proofs.YtincjochpkdnfaaGreatDoor
section
open Go.RowKit Go.Sort Go.Shelf Go.Lib
abbrev nh(x:Nat):Value:=.int .u16 x
def so(d:Array Nat)(f:∀i j,i<=j->j<d.size->d[i]! <=d[j]!)(m:Nat)(hm:m<=d.size):(compactUpTo d m).Pairwise (·< ·)/\∀x,x∈compactUpTo d m↔∃j,j<m/\d[j]! =x:=by
 induction m with
 |zero=>exact⟨by simp[compactUpTo],λx=>by simp[compactUpTo]⟩
 |succ m p=>
  obtain⟨n,k⟩:=p (by omega);rw[compactUpTo_succ];by_cases c:keeps d m=true
  ·rw[Hl c];refine⟨?_,λx=> ?_⟩
   ·rw[IN];refine⟨n,by simp,λa ha b o=> ?_⟩;rw[H0]at o
    subst o;obtain⟨j,g,rfl⟩:=(k a).1 ha;have r:=f j (m-1) (by omega) (by omega);have l2:=f (m-1) m (by omega) (by omega);unfold keeps at c;rw[HI]at c
    rcases c with c|c
    ·omega
    ·omega
   ·rw[Hu,k,H0];constructor
    ·rintro(⟨j,g,e⟩|rfl)
     ·exact⟨j,by omega,e⟩
     ·exact⟨m,by omega,rfl⟩
    ·rintro⟨j,g,e⟩;rcases HW j m with h|h
     ·exact .inl ⟨j,h,e⟩
     ·have:j=m:=by omega
      subst this;exact .inr e.symm
  ·rw[Hk c,HH];refine⟨n,λx=> ?_⟩;rw[k];constructor
   ·rintro⟨j,g,e⟩;exact⟨j,by omega,e⟩
   ·rintro⟨j,g,e⟩;rcases HW j m with h|h
    ·exact⟨j,h,e⟩
    ·have:j=m:=by omega
     subst this;unfold keeps at c;simp only[HI]at c;have q:j≠0:=λh=>c (.inl h);have l:d[j]! =d[j-1]! :=Classical.byContradiction λh=>c (.inr h);exact⟨j-1,by omega,by rw[<-l];exact e⟩
def sq(d:Array Nat)(m:Nat):(compactUpTo d m).length<=m:=by
 unfold compactUpTo;rw[Hq];exact Hy (List.length_filter_le _ _) (by simp)
def G1:EqlAt Tryz.prog 39 nh (λx y=>decide (x=y)):=⟨λx y w=>by
 rw[(EqlAt.int Tryz.prog 39 .u16).1 (x:Int) (y:Int) w];by_cases h:x=y
 ·subst h;simp
 ·have:(x:Int)≠y:=by omega
  simp[h,this],λop a b x y w=>GuardAt.int Tryz.prog 39 .u16 op a b x y w⟩
def G2:NeqAt Tryz.prog 39 nh (λx y=>decide (x=y)):=⟨λx y w=>by
 rw[(NeqAt.int Tryz.prog 39 .u16).1 (x:Int) (y:Int) w];by_cases h:x=y
 ·subst h;simp
 ·have:(x:Int)≠y:=by omega
  simp[h,this],λop a b x y w=>GuardAt.int Tryz.prog 39 .u16 op a b x y w⟩
def tL(w:World)(base:Nat)(v:Value)(a:List Nat)(own:w.ownsRow base 39 1 v a.length (a.map nh))(o:a≠ [])(p:a.Pairwise (·<= ·)):
    Calls Tryz.prog 104 #[v] w λe w'=>∃(t:Option Addr) (cap:Nat) (c:List Nat),e=.returned (.slice t c.length cap)/\c.Pairwise (·< ·)/\(∀x,x∈c↔x∈a)/\c.length<=a.length/\Sl w' (.slice t c.length cap) c.length 1 (c.flatMap λx=>[nh x])/\Kp (λb=>v.ownBlock=some b) w w':=by
 rcases own.2 with⟨rfl,E⟩|⟨g,cap,cur,rfl,N,F,G,y,H,z⟩
 ·exact absurd (IA E) o
 ·rw[Iu]at H z
  have A:Holds nh w g 0 a.toArray:=sortUint16.qM F z;have f:a.toArray.size<=cap:=by simpa using G
  have hsz:a.toArray.size<=9223372036854775807:=by unfold maxLen at y;simp;omega
  have k:∀i j,i<=j->j<a.toArray.size->a.toArray[i]! <=a.toArray[j]! :=λi j I d=>by
   have r:j<a.length:=by simpa using d
   have m:i<a.length:=by omega
   rw[getElem!_pos a.toArray i (by simpa using m),getElem!_pos a.toArray j d];simp only[Kd];rcases HW i j with h|h
   ·exact IM.1 p i j m r h
   ·have:i=j:=by omega
    subst this;exact Hm _
  obtain⟨B,J⟩:=so a.toArray k a.toArray.size (Hm _);have C:=sq a.toArray a.toArray.size;have n:∀x,x∈compactUpTo a.toArray a.toArray.size↔x∈a:=λx=>by
   rw[J];constructor
   ·rintro⟨j,d,rfl⟩;rw[getElem!_pos a.toArray j d];simp
   ·intro K;obtain⟨j,d,rfl⟩:=JA K;refine⟨j,by simpa using d,?_⟩;rw[getElem!_pos a.toArray j (by simpa using d)];simp
  have D:=AnyE.slices_Compact Tryz.compactU nh (λ_=>rfl) G1 G2 0 (λw=>by kernel_rfl) g 0 cap a.toArray w A hsz f;have e:a.toArray.size=a.length:=by simp
  have hlen:=B;rw[e]at D C
  refine JM D ?_;rintro O w' ⟨rfl,q,hw⟩;refine⟨_,cap,compactUpTo a.toArray a.length,rfl,by rw[<-e];exact B,by rw[<-e];exact n,C,?_,?_⟩
  ·have hz:∀l:List Nat,l.flatMap (λx=>[nh x])=l.map nh:=λl=>by induction l<;>simp_all
   refine⟨by rw[hz];simp,by unfold maxLen at y;omega,_,cap,rfl,λi u hu=>⟨g,0,rfl,?_⟩⟩;rw[hz]at hu
   have s:(compactUpTo a.toArray a.length++List.replicate (a.length-(compactUpTo a.toArray a.length).length) 0).toArray.size=a.toArray.size:=by simp;omega
   have L:=(holds_putRow nh (Sort.ahead w q) g 0 a.toArray _ (holds_ahead nh w q g 0 a.toArray A) s)
   have hi:i<(compactUpTo a.toArray a.length).length:=by have:=(HD.1 hu).1;simpa using this
   have:=(L i (by rw[s];simp;omega)).1;rw[hw,this];have M:u=nh (compactUpTo a.toArray a.length)[i]:=by
    rw[H2,Hn hi]at hu
    exact(Option.some.inj hu).symm
   rw[M,getElem!_pos _ i (by rw[s];simp;omega)];simp only[Kd];rw[List.getElem_append_left hi]
  ·rw[hw];exact(sortUint16.lB w g 0 q _).mono (λb _ h=>by subst h;rfl)
end
section
open Go.RowKit
def ki(p:Nat×Nat):List Value:=[.int .u16 p.1,.int .u64 p.2]
def h3(p:Nat×Nat):(ki p).length=2:=rfl
def C_:gL Tryz.prog 191 39 (.int .u16 0) 1 2:=⟨Tryz.underlying191,by kernel_rfl,rfl,by decide⟩
def Gc:gL Tryz.prog 184 246 (.agg #[.int .u16 0,.int .u64 0]) 2 16:=⟨Tryz.underlying184,by kernel_rfl,rfl,by decide⟩
def lL(w:World)(o:Obj){n:Nat}(h:n=w.heap.size):(w.alloc o).heap[n]? =some o:=by subst h;exact cz w o
def ss{l:List b5}{j:Nat}(h:j<l.length):cc (l.take (j+1))=cc (l.take j)++l[j].lo::(if l[j].hi<65535 then[l[j].hi+1]else[]):=by
 unfold cc;rw[HQ h,JH];simp only[Iv,Ko,HH,IT]
def nV(l:List b5):(cc l).length<=1+2*l.length:=by
 induction l with
 |nil=>simp[cc]
 |cons r l a=>
  have e:(cc (r::l)).length=(cc l).length+(1+(if r.hi<65535 then[r.hi+1]else[]).length):=by
   simp[cc];omega
  rw[e,Hs];split<;>simp<;>omega
structure R1 (w wr:World) (l:List b5) (v:Value) (j:Nat):Prop where
 own:wr.ownsRow w.heap.size 39 1 v (cc (l.take j)).length ((cc (l.take j)).map nh)
 kp:Kp ae w wr
structure R2 (w wr:World) (l:List b5) (zs:List Nat) (v:Value) (i:Nat):Prop where
 own:wr.ownsRow w.heap.size 246 2 v i ((eH l (zs.take i)).flatMap ki)
 kp:Kp ae w wr
def zX(w:World)(x:Nat):(w.alloc (.cells #[.int .u16 x] 39)).ownsRow w.heap.size 39 1 (.slice (some ⟨w.heap.size,0,none⟩) 1 1) 1 [.int .u16 x]:=
 ⟨rfl,.inr ⟨w.heap.size,1,#[.int .u16 x],rfl,Hm _,cz _ _,Hm _,by unfold maxLen;omega,rfl,rfl⟩⟩
def Et(l:List b5)(Q:∀r∈l,r.Ok)(hn:l.length<=64)(v:Value)(w:World)(h:Sl w v l.length 7 (l.flatMap cR)):
    Calls Tryz.prog 73 #[v] w λe w'=>∃rv y,e=.returned rv/\kC l y/\y.length<=129/\w'.ownsRow w.heap.size 246 2 rv y.length ((eH l y).flatMap ki)/\Kp ae w w':=by
 obtain⟨ao,cap,rfl⟩:∃ao cap,v=.slice ao l.length cap:=by obtain⟨ao,cap,rfl,_⟩:=h.is;exact⟨_,_,rfl⟩
 have aZ:=aa h;have a4:=aa Q;have ah:Hid (R1 w (w.alloc (.cells #[.int .u16 0] 39)) l (.slice (some ⟨w.heap.size,0,none⟩) 1 1) 0):=⟨zX w 0,(Kp.refl _ _).alloc _⟩
 clear h Q;go_enter Tryz.func73,Tryz.ntmps73;go_wp2_with fail;go_loopw [3,15] (λs3 i wr=>∃(j:Nat) (v3:Value),v3=s3/\i=.int .i64 j/\j<=l.length/\Hid (R1 w wr l v3 j)) (λ_ i _=>l.length-(intOf i).toNat)
 case atStart=>exact⟨0,_,rfl,rfl,Hv _,ah.out⟩
 case round=>
  clear ah;obtain⟨j,v3,rfl,rfl,hj,H⟩:=hrel;obtain⟨wo,aJ⟩:∃wo:World,wo=wr:=⟨_,rfl⟩
  subst aJ;by_cases R:j<l.length
  ·obtain⟨g,off,a0,D,t⟩:=(aZ.out.old H.out.kp).at eM (by decide) j R;injection D with D _ e3;cases D;subst e3;have a5:(j:Int)<l.length:=by omega
   have T:=ss R;obtain⟨r,U⟩:∃r,l[j]=r:=⟨_,rfl⟩
   have Q:=a4.out r (by rw[<-U];exact Ht R);rw[U]at t T
   have c0:wo.cell? ⟨g,off+j*7,none⟩=some (.int .u32 r.s.1):=t 0 _ rfl;have c1:=t 1 _ rfl;have c2:=t 2 _ rfl;have c3:=t 3 _ rfl;have c4:=t 4 _ rfl;have c5:=t 5 _ rfl;have c6:=t 6 _ rfl;have hl:=nV (l.take j);rw[HG]at hl
   have a6:(cc (l.take j)).length<=129:=by omega
   have a7:=H.out.kp.size;have aK:=aa (ag.new wo (cR r) 108);have r4:=aK.out.a_;clear t U hl;go_wp2_with(at_builtin;refine eW C_ (.tmp 19) (.tmp 22) rfl rfl w.heap.size ((H.out.own.alloc _).alloc _) [.int .u16 r.lo] rfl rfl rfl (lL _ _ (by simp)) rfl (by omega) (by omega) (by simp;omega) ?_);intro g2 L w4 a z;have V:Kp ae w w4:=((H.out.kp.alloc _).alloc _).grown z (λk hk=>.inr (an H.out.own hk).1);have ai:=(aK.out.alloc (.cells #[.int .u16 r.lo] 39)).grown z (λe=>by have:=(an H.out.own e.symm).2;omega);have r5:=ai.bN;have u:=aa a;have aj:=aa V;have ak:=aa T;have a1:=V.size;clear a z V ai T r4 c0 c1 c2 c3 c4 c5 c6 aK;by_cases hh:r.hi<65535
   ·obtain⟨q,hq⟩:∃q,r.hi+1=q:=⟨_,rfl⟩
    have hw:IntKind.u16.wrap ((r.hi:Int)+1)=(q:Int):=by rw[K1];omega
    have W:Hid ((if r.hi<65535 then[r.hi+1]else[])=[q]):=by show _=_;rw[Hl hh,hq]
    have aL:(r.hi:Int)<65535:=by omega
    go_wp2_with(at_builtin;refine eW C_ (.tmp 27) (.tmp 31) rfl rfl w.heap.size (u.out.alloc _) [.int .u16 q] rfl rfl rfl (lL _ _ (by simp)) rfl (by omega) (by omega) (by simp;omega) ?_);intro g3 M w5 c B;have E:Kp ae w w5:=(aj.out.alloc _).grown B (λk hk=>.inr (an u.out hk).1);have HF:Hid (R1 w w5 l (.slice (some ⟨g3,0,none⟩) ((cc (l.take j)).length+1+1) M) (j+1)):=by
     refine⟨?_,E⟩;have e:cc (l.take (j+1))=cc (l.take j)++[r.lo,q]:=by rw[ak.out,W.out]
     rw[e,HK,HE];simpa using c
    clear c B E u;go_wp2;go_roundw
    case rel=>exact⟨j+1,_,rfl,by go_num,by omega,HF.out⟩
    case measure=>simp[intOf];omega
   ·have W:Hid ((if r.hi<65535 then[r.hi+1]else[])=[]):=by show _=_;rw[Hk hh]
    have aL:¬(r.hi:Int)<65535:=by omega
    have HF:Hid (R1 w w4 l (.slice (some ⟨g2,0,none⟩) ((cc (l.take j)).length+1) L) (j+1)):=by
     refine⟨?_,aj.out⟩;have e:cc (l.take (j+1))=cc (l.take j)++[r.lo]:=by rw[ak.out,W.out]
     rw[e,HK,HE];simpa using u.out
    clear u;go_wp2;go_roundw
    case rel=>exact⟨j+1,_,rfl,by go_num,by omega,HF.out⟩
    case measure=>simp[intOf];omega
  ·have aM:j=l.length:=by omega
   subst aM;have hl:=nV l;have a:=H.out.own;rw[H9]at a
   have al:=sortUint16.Bl sortUint16.xK (by omega) wo w.heap.size 39 v3 (cc l) a (by omega);have aq:=aa al;have aN:=aa H.out.own;have aO:=aa H.out.kp;clear a al
   go_wp2_with(go_at_call 103;refine aq.out.mono ?_;rintro e w5 ⟨rfl,ys,I,c,E⟩
               have ar:ys≠ []:=λe=>by have:=I.perm.length_eq;rw[e]at this;simp[cc]at this
               have av:=aa (tL w5 w.heap.size v3 ys c ar I.up);have X:=aa I;have aP:=aa (aO.out.then E (λb hb Y=>by have:=(an aN.out Y).1;omega));have N:=aa c
               clear I c E ar)
   refine av.out.mono ?_;rintro e w6 ⟨a8,L,y,rfl,aw,O,aQ,ax,ay⟩;have az:kC l y:=⟨aw,λx=>(O x).trans X.out.perm.mem_iff⟩
   have aR:=X.out.perm.length_eq;have Z:y.length<=129:=by omega
   have aS:=aa az;have aT:=aa ax;have ac:=aa (aP.out.then ay (λb hb Y=>by have:=(an N.out Y).1;omega));clear aw O aQ ax ay az aR av aq N hl X;go_wp2_with fail;go_loopw [6,39] (λs6 i wr=>∃(i0:Nat) (v6:Value),v6=s6/\i=.int .i64 i0/\i0<=y.length/\Hid (R2 w6 wr l y v6 i0)) (λ_ i _=>y.length-(intOf i).toNat)
   case atStart=>exact⟨0,_,rfl,rfl,Hv _,⟨by simp[eH],.inl ⟨rfl,rfl⟩⟩,Kp.refl _ _⟩
   case round=>
    obtain⟨i0,v6,rfl,rfl,a9,A⟩:=hrel;obtain⟨wi,aU⟩:∃wi:World,wi=wr:=⟨_,rfl⟩
    subst aU;by_cases P:i0<y.length
    ·obtain⟨gz,aA,a2,D,t⟩:=(aT.out.old A.out.kp).at (enc:=λx=>[nh x]) (λ_=>rfl) (by decide) i0 P;injection D with D _ e3;subst D e3;have ba:(i0:Int)<y.length:=by omega
     obtain⟨p,hp⟩:∃p,y[i0]=p:=⟨_,rfl⟩
     rw[hp]at t
     have c0:wi.cell? ⟨gz,aA+i0*1,none⟩=some (.int .u16 p):=t 0 _ rfl;rw[Iu]at c0
     obtain⟨f,hf⟩:∃f:Nat->Bool,f=λk=>sY (l.getD k default) p:=⟨_,rfl⟩
     have HF:=aa hf;have bb:=aa hp;clear t hf hp;go_wp2_with fail;go_loopw [9,45] (λm i wr=>∃k:Nat,i=.int .i64 k/\k<=l.length/\m=.int .u64 (bitsOf f k:Nat)/\Hid (Kp ae wi wr)) (λ_ i _=>l.length-(intOf i).toNat)
     case atStart=>exact⟨0,rfl,Hv _,rfl,Kp.refl _ _⟩
     case round=>
      obtain⟨k,rfl,hk,rfl,aB⟩:=hrel;by_cases aC:k<l.length
      ·obtain⟨g,off,M,D,t⟩:=(aZ.out.old ((ac.out.trans A.out.kp).trans aB.out)).at eM (by decide) k aC;injection D with D _ e3;subst D e3;have bc:(k:Int)<l.length:=by omega
       have aD:k<64:=by omega
       obtain⟨o,ho⟩:∃o,l[k]=o:=⟨_,rfl⟩
       rw[ho]at t
       have d0:wr.cell? ⟨g,off+k*7,none⟩=some (.int .u32 o.s.1):=t 0 _ rfl;have d1:=t 1 _ rfl;have d2:=t 2 _ rfl;have d3:=t 3 _ rfl;have d4:=t 4 _ rfl;have d5:=t 5 _ rfl;have d6:=t 6 _ rfl;have J:f k=sY o p:=by rw[HF.out];show sY (l.getD k default) p=_;rw[cn _ aC,ho]
       have ad:=aa (aB.out.alloc (.cells #[.int .u32 o.s.1,.int .i64 o.s.2,.int .u32 o.d.1,.int .i64 o.d.2,.int .u16 o.lo,.int .u16 o.hi,.int .u32 o.fl] 108));clear t ho;cases n:f k with
       |true=>
        have aV:=lI aD n;rw[J]at n
        unfold sY at n;rw[HS,HI,HI]at n
        obtain⟨h1,h2⟩:=n;obtain⟨m,hm⟩:∃m,bitsOf f k=m:=⟨_,rfl⟩
        obtain⟨m',af⟩:∃m,bitsOf f (k+1)=m:=⟨_,rfl⟩
        rw[hm,af]at aV
        have K:=aa af;simp only[hm];clear hm af J;go_wp2_with fail;go_roundw
        case rel=>exact⟨k+1,by go_num,by omega,by rw[K.out],ad.out⟩
        case measure=>simp[intOf];omega
       |false=>
        have aE:=lJ n;have aF:=aa aE;rw[J]at n
        unfold sY at n;obtain⟨m,hm⟩:∃m,bitsOf f k=m:=⟨_,rfl⟩
        have K:=aa hm;simp only[hm];clear hm aE J;by_cases h1:o.lo<=p
        ·have h2:¬p<=o.hi:=by
          intro h2;rw[Hz h1,Hz h2]at n;cases n
         clear n;go_wp2_with fail;go_roundw
         case rel=>exact⟨k+1,by go_num,by omega,by rw[aF.out,K.out],ad.out⟩
         case measure=>simp[intOf];omega
        ·clear n;go_wp2_with fail;go_roundw
         case rel=>exact⟨k+1,by go_num,by omega,by rw[aF.out,K.out],ad.out⟩
         case measure=>simp[intOf];omega
      ·have aW:k=l.length:=by omega
       subst aW;have F:bitsOf f l.length=j_ l p:=by rw[HF.out];rfl
       obtain⟨m,hm⟩:∃m,bitsOf f l.length=m:=⟨_,rfl⟩
       rw[hm]at F
       have aG:=aa F;simp only[hm];have a3:=(A.out.kp.trans aB.out).size;have u:=aa (au (S:=ae) A.out.own aB.out (λ_ _ h=>h));clear hm F;go_wp2_with(at_builtin;refine eW Gc (.tmp 65) (.tmp 69) rfl rfl w6.heap.size (u.out.alloc _) [.int .u16 p,.int .u64 m] rfl rfl rfl (lL _ _ (by simp)) rfl (by omega) (by omega) (by simp;omega) ?_);intro g3 aH w8 G C;have aI:Kp ae w6 w8:=((A.out.kp.trans aB.out).alloc _).grown C (λk hk=>.inr (an u.out hk).1);have aX:Hid (R2 w6 w8 l y (.slice (some ⟨g3,0,none⟩) (i0+1) aH) (i0+1)):=by
        refine⟨?_,aI⟩;have e:(eH l (y.take (i0+1))).flatMap ki=(eH l (y.take i0)).flatMap ki++[.int .u16 p,.int .u64 m]:=by
         rw[HQ P,bb.out];unfold eH;rw[HE,JH,aG.out];rfl
        rw[e];exact G
       clear G C aI u;go_wp2;go_roundw
       case rel=>exact⟨i0+1,_,rfl,by go_num,by omega,aX.out⟩
       case measure=>simp[intOf];omega
    ·have aY:i0=y.length:=by omega
     subst aY;have a:=A.out.own;rw[H9]at a
     have u:=aa a;clear a;go_wp2_with fail;go_ret;exact⟨_,y,rfl,aS.out,Z,gm u.out ac.out.size,ac.out.trans A.out.kp⟩
end
end Go.Proofs.YtincjochpkdnfaaGreatDoor
