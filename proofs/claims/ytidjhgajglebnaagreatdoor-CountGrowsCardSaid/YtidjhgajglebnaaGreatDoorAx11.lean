/- A part of the proof. -/
import Derived.Test.YtidjhgajglebnaaGreatDoorAx10
import Derived.Test.YtidjhgajglebnaaGreatDoorProg
import Derived.KernelRfl
set_option linter.unusedVariables false
set_option linter.unusedSimpArgs false
namespace Go.Proofs.YtidjhgajglebnaaGreatDoor
open Go Go.Ax Go.Proofs Tryz
set_option maxRecDepth 1000000
set_option maxRecDepth 1000000
def gz:List (Nat × AV):=[(0,.agg [.int .u64 1,.int .u64 10,.int .u64 100,.int .u64 1000,.int .u64 10000,.int .u64 100000,.int .u64 1000000,.int .u64 10000000,.int .u64 100000000,.int .u64 1000000000,.int .u64 10000000000,.int .u64 100000000000,.int .u64 1000000000000,.int .u64 10000000000000,.int .u64 100000000000000,.int .u64 1000000000000000,.int .u64 10000000000000000,.int .u64 100000000000000000,.int .u64 1000000000000000000,.int .u64 10000000000000000000]),(2,.agg [.int .u8 0,.int .u8 1,.int .u8 28,.int .u8 2,.int .u8 29,.int .u8 14,.int .u8 24,.int .u8 3,.int .u8 30,.int .u8 22,.int .u8 20,.int .u8 15,.int .u8 25,.int .u8 17,.int .u8 4,.int .u8 8,.int .u8 31,.int .u8 27,.int .u8 13,.int .u8 23,.int .u8 21,.int .u8 19,.int .u8 16,.int .u8 7,.int .u8 26,.int .u8 12,.int .u8 18,.int .u8 6,.int .u8 11,.int .u8 5,.int .u8 10,.int .u8 9]),(3,.agg [.int .u8 0,.int .u8 1,.int .u8 56,.int .u8 2,.int .u8 57,.int .u8 49,.int .u8 28,.int .u8 3,.int .u8 61,.int .u8 58,.int .u8 42,.int .u8 50,.int .u8 38,.int .u8 29,.int .u8 17,.int .u8 4,.int .u8 62,.int .u8 47,.int .u8 59,.int .u8 36,.int .u8 45,.int .u8 43,.int .u8 51,.int .u8 22,.int .u8 53,.int .u8 39,.int .u8 33,.int .u8 30,.int .u8 24,.int .u8 18,.int .u8 12,.int .u8 5,.int .u8 63,.int .u8 55,.int .u8 48,.int .u8 27,.int .u8 60,.int .u8 41,.int .u8 37,.int .u8 16,.int .u8 46,.int .u8 35,.int .u8 44,.int .u8 21,.int .u8 52,.int .u8 32,.int .u8 23,.int .u8 11,.int .u8 54,.int .u8 26,.int .u8 40,.int .u8 15,.int .u8 34,.int .u8 20,.int .u8 31,.int .u8 10,.int .u8 25,.int .u8 14,.int .u8 19,.int .u8 9,.int .u8 13,.int .u8 8,.int .u8 7,.int .u8 6])]
set_option maxRecDepth 100000
set_option maxHeartbeats 16000000
theorem qY{i n:Nat}(h:i<n):Nat.blt ((i:Nat):Int).toNat n=true:=T8 (by simp;omega)
theorem zW{l:List Nat}{i d:Nat}(h:l[i]? = some d):(bM l)[((i:Nat):Int).toNat]? = some (.int .u32 (d:Int)):=by rw[T4,M4,h];rfl
theorem Jb{l:List Nat}{i d:Nat}(h:l[i]? = some d):(bM l)[0+((i:Nat):Int).toNat]? = some (.int .u32 (d:Int)):=by rw[UT];exact zW h
theorem NC{j n:Nat}(h:j<=n):(Nat.ble 0 ((j:Nat):Int).toNat && (Nat.ble ((j:Nat):Int).toNat n && Nat.ble n n))=true:=by
 rw[T4,T8 (VL _),T8 h,T8 (UC _)];rfl
theorem Br(l:List Nat)(hl:l.length<=4294967296):aZ prog [] 39 [.il 1 (bM l)] (.il 1 (bM (eG l))):=by
 refine aG bB func39 rfl ?_;refine Rr ?_;refine bA.at bB (fun k:Nat=>k<=l.length/\eG (l.take k)=eG l) (fun k=>⟨[(0,.il 1 (bM (l.take k)))],[],0,21⟩) (fun k=>k) l.length [] ⟨UC _,by rw[UM]⟩
  (bV ⟨⟨_,rfl,.eq (.il' (aV _)) (by rw[UM])⟩,trivial⟩) ?_
 rintro k ⟨hk,ht⟩;refine Rr ?_;have hlk:(bM (l.take k)).length=k:=by rw[a9,U4];omega
 rw[hlk];refine aD (fun hb=>?_) (fun hb=>?_)
 ·rw[hb];have hk0:0<k:=by simpa using hb
  obtain⟨j,rfl⟩:∃j,k=j+1:=⟨k-1,by omega⟩
  obtain⟨d,hd⟩:∃d,l[j]? = some d:=⟨_,Ty (by omega)⟩
  have hw:IntKind.i64.wrap (((j+1:Nat):Int)-1)=(j:Int):=by rw[bE ⟨by omega,by omega⟩];omega
  have hg:(l.take (j+1))[j]? = some d:=by rw[Ua,T7 (by omega)];exact hd
  have e1:=zW hg;have hts:eG (l.take (j+1))=if d=0 then eG (l.take j) else l.take (j+1):=by
   have e:=zC hd;rw[e,vO]
  refine Rr ?_;rw[hlk,hw];refine aC e1 ?_;refine Rt ?_;refine aD (fun hc=>?_) (fun hc=>?_)
  ·have hd0:d=0:=by simpa using hc
   refine Rr ?_;rw[hlk,hw];refine aM (NC (by omega)) ?_;refine Rr ?_;exact .mk j [] ⟨by omega,by rw[T7 hd0] at hts;rw[←hts];exact ht⟩ (bV ⟨⟨_,rfl,.eq (.il' (aV _)) (by simp[bM,←List.map_take,WF])⟩,trivial⟩) (by omega)
  ·refine Rr ?_;have hd0:d≠0:=by simpa using hc
   rw[T5 hd0] at hts;rw[←ht,hts];exact aA (.il' (aV _)) ⟨rfl,rfl,rfl⟩
 ·try rw[hb]
  have hk0:k=0:=by simp at hb;omega
  subst hk0;refine Rr ?_;rw[←ht];exact aA (.il' (aV _)) ⟨rfl,rfl,rfl⟩
theorem Q4(x y:Nat)(hx:(dg 4294967296 x).length<=4294967296):aZ prog [] 63 [.il 1 (bM (dg 4294967296 x)),.il 1 (bM (dg 4294967296 y))] (.int .i64 (Go.Ax.f0 x y)):=by
 refine aG bB func63 rfl ?_;refine Rr ?_;rw[a9,a9];have hB:(2:Nat)<=4294967296:=by decide
 have hla:=eS hB x;have hlb:=eS hB y;have hva:=fK hB x;have hvb:=fK hB y;have hL:(dg 4294967296 x).length<(dg 4294967296 y).length->Go.Ax.f0 (x:Int) y = -1:=fun h=>by have:=nG hB h;unfold Go.Ax.f0;rw[T7 (by omega)]
 have hG:(dg 4294967296 y).length<(dg 4294967296 x).length->Go.Ax.f0 (x:Int) y=1:=fun h=>by have:=nG hB h;unfold Go.Ax.f0;rw[T5 (by omega),T7 (by omega)]
 generalize dg 4294967296 x=a at *;generalize dg 4294967296 y=b at *;refine aD (fun hb=>?_) (fun hb=>?_)
 ·have hne:a.length≠b.length:=fun e=>by rw[e] at hb;simp at hb
  refine Rr ?_;rw[a9,a9];refine aD (fun hc=>?_) (fun hc=>?_)
  ·refine Rr ?_;rw[hL (by simpa using hc)];exact aA nn ⟨rfl,rfl,rfl⟩
  ·refine Rr ?_;rw[hG (by simp at hc;omega)];exact aA nn ⟨rfl,rfl,rfl⟩
 ·have heq:a.length=b.length:=by simp at hb;omega
  refine Rr ?_;refine bA.at bB (fun m:Nat=>m<=a.length/\a.drop m=b.drop m) (fun m=>⟨[(0,.il 1 (bM a)),(1,.il 1 (bM b)),(5,.int .i64 ((m:Int)-1))],[],0,41⟩) (fun m=>m) a.length [] ⟨UC _,by rw[Vh,heq,Vh]⟩
   (bV ⟨aQ (.il' (aV _)),aQ (.il' (aV _)),⟨_,rfl,.w64 (by rw[a9]) ⟨by omega,by omega⟩⟩,trivial⟩) ?_
  rintro m ⟨hm,hd⟩;refine Rr ?_;refine aD (fun hc=>?_) (fun hc=>?_)
  ·have hm1:0<m:=by simp at hc;omega
   obtain⟨i,rfl⟩:∃i,m=i+1:=⟨m-1,by omega⟩
   rw[show (((i+1:Nat):Int)-1)=(i:Int) by omega];obtain⟨u,hu⟩:∃u,a[i]? = some u:=⟨_,Ty (by omega)⟩
   obtain⟨v,hv⟩:∃v,b[i]? = some v:=⟨_,Ty (by omega)⟩
   have e1:=zW hu;have e2:=zW hv;refine Rr ?_;repeat((first|refine aC e1 ?_|refine aC e2 ?_|refine bH ?_);refine Rr ?_)
   refine aD (fun hc=>?_) (fun hc=>?_)
   ·have huv:u<v:=by simp at hc;omega
    have:=mZ hla hB hd hu hv huv heq;refine Rr ?_;rw[show Go.Ax.f0 (x:Int) y = -1 by unfold Go.Ax.f0;rw[T7 (by omega)]];exact aA nn ⟨rfl,rfl,rfl⟩
   ·refine Rr ?_;repeat((first|refine aC e1 ?_|refine aC e2 ?_|refine bH ?_);refine Rr ?_)
    refine aD (fun hc2=>?_) (fun hc2=>?_)
    ·have huv:v<u:=by simp at hc2;omega
     have:=mZ hlb hB hd.symm hv hu huv heq.symm;refine Rr ?_;rw[show Go.Ax.f0 (x:Int) y=1 by unfold Go.Ax.f0;rw[T5 (by omega),T7 (by omega)]];exact aA nn ⟨rfl,rfl,rfl⟩
    ·have huv:u=v:=by simp at hc hc2;omega
     refine Rr ?_;exact .mk i [] ⟨by omega,by
       obtain⟨h1,h2⟩:=T0.1 hu;obtain⟨h3,h4⟩:=T0.1 hv;rw[UU h1,UU h3,h2,h4,huv,hd]⟩
      (bV ⟨aQ (.il' (aV _)),aQ (.il' (aV _)),⟨_,rfl,.w64 rfl ⟨by omega,by omega⟩⟩,trivial⟩) (by omega)
  ·have hm0:m=0:=by simp at hc;omega
   subst hm0;simp only[Ub] at hd;subst hd;refine Rr ?_;rw[show Go.Ax.f0 (x:Int) y=0 by rw[←hva,hvb];simp[Go.Ax.f0]];exact aA nn ⟨rfl,rfl,rfl⟩
set_option maxRecDepth 100000
set_option maxHeartbeats 16000000
def QM(c:Nat):aN:=[(0,.row 156 1 [.int .u64 (c:Int)])]
theorem xN(x y c:Nat)(hx:x<4294967296)(hy:y<4294967296)(hc:c<4294967296):aE prog [] 174 [.int .u32 x,.int .u32 y,.ptr 0 0 0] (QM c) 1
  fun r m n=>r = .int .u32 (((c+(x+y))%4294967296:Nat):Int)/\m=QM ((c+(x+y))/4294967296)/\n=1:=by
 have e1:IntKind.u64.wrap (x:Int)=(x:Int):=zO (by omega);have e2:IntKind.u64.wrap (y:Int)=(y:Int):=zO (by omega);have e3:IntKind.u64.wrap ((x:Int)+(y:Int))=((x+y:Nat):Int):=by rw[←VG];exact zO (by omega)
 have e4:IntKind.u64.wrap ((c:Int)+((x+y:Nat):Int))=((c+(x+y):Nat):Int):=by rw[←VG];exact zO (by omega)
 refine aG bB func174 rfl ?_;refine Rr ?_;rw[e1,e2,e3,e4];refine Rr ?_;exact bJ (n':=1) (m':=QM ((c+(x+y))/4294967296)) [(0,0)] rfl ⟨⟨0,_,rfl,rfl,.cons (.one rfl rfl (.int Go.Ax.LT)) .nil⟩,trivial⟩ (.int (SP _)) ⟨rfl,rfl,rfl⟩
theorem Dx{a b c:Bool}{n bytes:Nat}(ha:a=true)(hb:b=true)(hc:c=true)(h:n<=4294967296)(hby:Nat.ble bytes 4096=true) :
  (a && (b && (c && (decide (0<=(n:Int)) && (decide ((n:Int)<=n) && (decide ((bytes:Int)*n<=281474976710656) && decide ((n:Int)<=9223372036854775807)))))))=true:=by
 have hby:=T3 hby;have h3:bytes*n<=4096*4294967296:=VO hby h;have h4:((bytes:Nat):Int)*(n:Int)=((bytes*n:Nat):Int):=by simp
 rw[ha,hb,hc,h4,UD (by omega),UD (by omega),UD (by omega),UD (by omega)];rfl
theorem xP(k:IntKind)(n:Int):kH [.int k n]:=fun a ha=>by
 rw[VD.1 ha];exact .int _ _
theorem Ky{s:List Nat}{n:Nat}(h:s.length<n):(bM (g8 s n))[0+((s.length:Nat):Int).toNat]? = some (.int .u32 0):=Jb (Mm h)
theorem KI{s:List Nat}{n d:Nat}(h:s.length<n):(bM (g8 s n)).set (0+((s.length:Nat):Int).toNat) (.int .u32 (d:Int))=bM (g8 (s++[d]) n):=by
 rw[T4,UT,s7,Lg h]
theorem iV{P:Nat->Prop}{l:List Nat}{d:Nat}(h:∀x∈l,P x)(hd:P d):∀x∈l++[d],P x:=fun x hx=>by
 rcases UI.1 hx with hx|hx
 ·exact h x hx
 ·rw[VD.1 hx];exact hd
theorem Sh(X Y:List Nat)(hX:∀d∈X,d<4294967296)(hY:∀d∈Y,d<4294967296)(hx:X.length<=1000000)(hy:Y.length<=1000000):aZ prog [] 104 [.il 1 (bM X),.il 1 (bM Y)] (.il 1 (bM (dg 4294967296 (vl 4294967296 X+vl 4294967296 Y)))):=by
 have hB:(2:Nat)<=4294967296:=by decide
 refine aG bB func104 rfl ?_;refine Rr ?_;rw[a9,a9];rcases UG X.length Y.length with hxy|hxy
 ·rw[UD (by omega)];obtain⟨S,hS⟩:∃S,S=vl 4294967296 X+vl 4294967296 Y:=⟨_,rfl⟩
  rw[←hS];have hla:=hY;have hlb:=hX;have hsum:vl 4294967296 Y+vl 4294967296 X=S:=by omega
  generalize Y=a at *;generalize X=b at *;have hx:=hy;refine Rr ?_;have hw1:IntKind.i64.wrap (((bM a).length:Int)+1)=((a.length+1:Nat):Int):=by rw[a9,bE ⟨by omega,by omega⟩];omega
  rw[hw1];refine aM (Dx rfl rfl rfl (by omega) rfl) ?_;refine Rt ?_;refine bA.at bB (fun p:List Nat × Nat=>p.1.length<=b.length/\(∀d∈p.1,d<4294967296)/\p.2<=1/\vl 4294967296 p.1+4294967296 ^ p.1.length*p.2=vl 4294967296 (a.take p.1.length)+vl 4294967296 (b.take p.1.length))
   (fun p=>⟨[(0,.il 1 (bM a)),(1,.il 1 (bM b)),(5,.sl 0 0 (a.length+1)),(6,.ptr 1 0 0),(7,.fn (.func 174) [] [.ptr 1 0 0]),(23,.int .i64 b.length),(24,.int .i64 p.1.length)],[(0,.row 81 1 (bM (g8 p.1 (a.length+1)))),(1,.row 156 1 [.int .u64 (p.2:Int)])],2,66⟩)
   (fun p=>b.length-p.1.length) ([],0) [(0,0),(1,1)] ⟨by simp,by simp,by simp,by simp[vl]⟩
   (aF _ rfl ⟨⟨0,_,rfl,rfl,.eq (aV _) (by simp[bM,g8])⟩,aK 1 (xP _ _),trivial⟩
    ⟨aQ (.il' (aV _)),aQ (.il' (aV _)),⟨_,rfl,.slE rfl (by simp)⟩,aI,⟨_,rfl,(.fn _ _ _ _ _ rfl rfl (by simp) (jJ.cons (.ptr 1 1 0 0 rfl) .nil).2)⟩,⟨_,rfl,.int (by rw[a9])⟩,aJ,trivial⟩) ?_
  rintro⟨s,c⟩ ⟨h1,h2,h3,h4⟩;simp only at h1 h2 h3 h4 ⊢;refine Rr ?_;refine aD (fun hb=>?_) (fun hb=>?_)
  ·have hlt:s.length<b.length:=by simpa using hb
   obtain⟨u,hu⟩:∃u,a[s.length]? = some u:=⟨_,Ty (by omega)⟩
   obtain⟨v,hv⟩:∃v,b[s.length]? = some v:=⟨_,Ty (by omega)⟩
   have hul:=hla _ (UA hu);have hvl:=hlb _ (UA hv);have g1:=zW hu;have g2:=zW hv;have g3:=Ky (s:=s) (n:=a.length+1) (by omega);have bi:=qY (i:=s.length) (n:=a.length+1) (by omega);refine Rr ?_;repeat((first|refine aC g1 ?_|refine aC g2 ?_|refine bH ?_);refine Rr ?_)
   refine aE.useN bB [(1,0)] (xN u v c hul hvl (by omega)) rfl (.s (.s (.cons (.ptr 1 0 0 0 rfl) .nil))) ⟨aK 1 (xP _ _),trivial⟩ rfl ?_;rintro r' m' n' ⟨rfl,rfl,rfl⟩;refine⟨[(0,1)],_,[(1,.row 156 1 [.int .u64 (((c+(u+v))/4294967296:Nat):Int)])],16,.same _ nn,⟨aK 0 (xP _ _),trivial⟩,rfl, ?_⟩;refine Rt ?_;repeat((first|refine aM bi ?_|refine aC g3 ?_);refine Rt ?_)
   have hstep:=sL (B:=4294967296) (by decide) (s:=s) (x:=u) (y:=v) rfl h4;have hdv:(c+(u+v))/4294967296<=1:=by omega
   have hmd:(c+(u+v))%4294967296<4294967296:=VY _ (by decide);exact .mk (s++[(c+(u+v))%4294967296],(c+(u+v))/4294967296) [(0,0),(1,1)] ⟨by simp;omega,iV h2 hmd,hdv,by simp only[UV,Ut];rw[iI hu,iI hv];exact hstep⟩
    (aF _ rfl ⟨⟨0,_,rfl,rfl,.eq (aV _) (KI (by omega))⟩,aK 1 (xP _ _),trivial⟩
     ⟨aQ (.il' (aV _)),aQ (.il' (aV _)),⟨_,rfl,.slE rfl rfl⟩,aI,⟨_,rfl,(.fn _ _ _ _ _ rfl rfl (by simp) (jJ.cons (.ptr 1 1 0 0 rfl) .nil).2)⟩,aJ,⟨_,rfl,.w64 (by simp) ⟨by simp;omega,by simp;omega⟩⟩,trivial⟩) (by simp;omega)
  ·skip;have hlt:s.length=b.length:=by simp at hb;omega
   rw[hlt,UM] at h4;refine Rr ?_;refine bA.at bB (fun p:List Nat × Nat=>b.length<=p.1.length/\p.1.length<=a.length/\(∀d∈p.1,d<4294967296)/\p.2<=1/\vl 4294967296 p.1+4294967296 ^ p.1.length*p.2=vl 4294967296 (a.take p.1.length)+vl 4294967296 b)
    (fun p=>⟨[(0,.il 1 (bM a)),(5,.sl 0 0 (a.length+1)),(6,.ptr 1 0 0),(7,.fn (.func 174) [] [.ptr 1 0 0]),(9,.int .i64 p.1.length)],[(0,.row 81 1 (bM (g8 p.1 (a.length+1)))),(1,.row 156 1 [.int .u64 (p.2:Int)])],2,66⟩)
    (fun p=>a.length-p.1.length) (s,c) [(0,0),(1,1)] ⟨by simp only;omega,by simp only;omega,h2,h3,by simp only;rw[hlt];exact h4⟩
    (aF _ rfl ⟨aK 0 (aV _),aK 1 (xP _ _),trivial⟩
     ⟨aQ (.il' (aV _)),⟨_,rfl,.slE rfl rfl⟩,aI,⟨_,rfl,(.fn _ _ _ _ _ rfl rfl (by simp) (jJ.cons (.ptr 1 1 0 0 rfl) .nil).2)⟩,⟨_,rfl,.int (by rw[a9,hlt])⟩,trivial⟩) ?_
   clear h1 h2 h3 h4 hlt hb s c;rintro⟨s,c⟩ ⟨h0,h1,h2,h3,h4⟩;simp only at h0 h1 h2 h3 h4 ⊢;refine Rr ?_;rw[a9];refine aD (fun hb=>?_) (fun hb=>?_)
   ·have hlt:s.length<a.length:=by simpa using hb
    obtain⟨u,hu⟩:∃u,a[s.length]? = some u:=⟨_,Ty (by omega)⟩
    have hul:=hla _ (UA hu);have g1:=zW hu;have g3:=Ky (s:=s) (n:=a.length+1) (by omega);have bi:=qY (i:=s.length) (n:=a.length+1) (by omega);refine Rr ?_;repeat((first|refine aC g1 ?_|refine bH ?_);refine Rr ?_)
    refine aE.useN bB [(1,0)] (xN u 0 c hul (by decide) (by omega)) rfl (.s (.s (.cons (.ptr 1 0 0 0 rfl) .nil))) ⟨aK 1 (xP _ _),trivial⟩ rfl ?_;rintro r' m' n' ⟨rfl,rfl,rfl⟩;refine⟨[(0,1)],_,[(1,.row 156 1 [.int .u64 (((c+(u+0))/4294967296:Nat):Int)])],2,.same _ nn,⟨aK 0 (xP _ _),trivial⟩,rfl, ?_⟩;refine Rt ?_;repeat((first|refine aM bi ?_|refine aC g3 ?_);refine Rt ?_)
    have hstep:=sL (B:=4294967296) (by decide) (s:=s) (x:=u) (y:=0) rfl h4;have hdv:(c+(u+0))/4294967296<=1:=by omega
    have hmd:(c+(u+0))%4294967296<4294967296:=VY _ (by decide);exact .mk (s++[(c+(u+0))%4294967296],(c+(u+0))/4294967296) [(0,0),(1,1)] ⟨by simp;omega,by simp;omega,iV h2 hmd,hdv,by simp only[UV,Ut];rw[iI hu];simpa using hstep⟩
     (aF _ rfl ⟨⟨0,_,rfl,rfl,.eq (aV _) (KI (by omega))⟩,aK 1 (xP _ _),trivial⟩
      ⟨aQ (.il' (aV _)),⟨_,rfl,.slE rfl rfl⟩,aI,⟨_,rfl,(.fn _ _ _ _ _ rfl rfl (by simp) (jJ.cons (.ptr 1 1 0 0 rfl) .nil).2)⟩,⟨_,rfl,.w64 (by simp) ⟨by simp;omega,by simp;omega⟩⟩,trivial⟩) (by simp;omega)
   ·have hlt:s.length=a.length:=by simp at hb;omega
    rw[hlt,UM,hsum] at h4;have bi:=qY (i:=s.length) (n:=s.length+1) (by omega);have g3:=Ky (s:=s) (n:=s.length+1) (by omega);have hcw:IntKind.u32.wrap (c:Int)=(c:Int):=Oy (by omega);have hz:eG (s++[c])=dg 4294967296 S:=by
     rw[kQ hB _ (iV h2 (by omega)),wY,hlt,h4]
    refine Rr ?_;rw[a9,←hlt];refine Rs ?_;repeat((first|refine aM bi ?_|refine aC g3 ?_);refine Rt ?_)
    refine aE.pre bB [] (mem':=[]) rfl trivial (.cons (.fz' (id:=0) (ys:=bM (s++[c])) rfl rfl (by simp[a9,l7]) (by
     rw[hcw,KI (by omega),Ub,UB (by rw[a9,l7]<;>simp)];simp[g8]) (aV _)) .nil) ?_
    refine(Br (s++[c]) (by simp;omega)).go ?_ (.cons (.il' (aV _)) .nil) (.il' (aV _));rw[hz];refine Rr ?_;exact aA (.il' (aV _)) ⟨rfl,rfl,rfl⟩
 ·rw[UO (by omega)];obtain⟨S,hS⟩:∃S,S=vl 4294967296 X+vl 4294967296 Y:=⟨_,rfl⟩
  rw[←hS];have hla:=hX;have hlb:=hY;have hsum:vl 4294967296 X+vl 4294967296 Y=S:=by omega
  generalize X=a at *;generalize Y=b at *;refine Rr ?_;have hw1:IntKind.i64.wrap (((bM a).length:Int)+1)=((a.length+1:Nat):Int):=by rw[a9,bE ⟨by omega,by omega⟩];omega
  rw[hw1];refine aM (Dx rfl rfl rfl (by omega) rfl) ?_;refine Rt ?_;refine bA.at bB (fun p:List Nat × Nat=>p.1.length<=b.length/\(∀d∈p.1,d<4294967296)/\p.2<=1/\vl 4294967296 p.1+4294967296 ^ p.1.length*p.2=vl 4294967296 (a.take p.1.length)+vl 4294967296 (b.take p.1.length))
   (fun p=>⟨[(0,.il 1 (bM a)),(1,.il 1 (bM b)),(5,.sl 0 0 (a.length+1)),(6,.ptr 1 0 0),(7,.fn (.func 174) [] [.ptr 1 0 0]),(23,.int .i64 b.length),(24,.int .i64 p.1.length)],[(0,.row 81 1 (bM (g8 p.1 (a.length+1)))),(1,.row 156 1 [.int .u64 (p.2:Int)])],2,66⟩)
   (fun p=>b.length-p.1.length) ([],0) [(0,0),(1,1)] ⟨by simp,by simp,by simp,by simp[vl]⟩
   (aF _ rfl ⟨⟨0,_,rfl,rfl,.eq (aV _) (by simp[bM,g8])⟩,aK 1 (xP _ _),trivial⟩
    ⟨aQ (.il' (aV _)),aQ (.il' (aV _)),⟨_,rfl,.slE rfl (by simp)⟩,aI,⟨_,rfl,(.fn _ _ _ _ _ rfl rfl (by simp) (jJ.cons (.ptr 1 1 0 0 rfl) .nil).2)⟩,⟨_,rfl,.int (by rw[a9])⟩,aJ,trivial⟩) ?_
  rintro⟨s,c⟩ ⟨h1,h2,h3,h4⟩;simp only at h1 h2 h3 h4 ⊢;refine Rr ?_;refine aD (fun hb=>?_) (fun hb=>?_)
  ·have hlt:s.length<b.length:=by simpa using hb
   obtain⟨u,hu⟩:∃u,a[s.length]? = some u:=⟨_,Ty (by omega)⟩
   obtain⟨v,hv⟩:∃v,b[s.length]? = some v:=⟨_,Ty (by omega)⟩
   have hul:=hla _ (UA hu);have hvl:=hlb _ (UA hv);have g1:=zW hu;have g2:=zW hv;have g3:=Ky (s:=s) (n:=a.length+1) (by omega);have bi:=qY (i:=s.length) (n:=a.length+1) (by omega);refine Rr ?_;repeat((first|refine aC g1 ?_|refine aC g2 ?_|refine bH ?_);refine Rr ?_)
   refine aE.useN bB [(1,0)] (xN u v c hul hvl (by omega)) rfl (.s (.s (.cons (.ptr 1 0 0 0 rfl) .nil))) ⟨aK 1 (xP _ _),trivial⟩ rfl ?_;rintro r' m' n' ⟨rfl,rfl,rfl⟩;refine⟨[(0,1)],_,[(1,.row 156 1 [.int .u64 (((c+(u+v))/4294967296:Nat):Int)])],16,.same _ nn,⟨aK 0 (xP _ _),trivial⟩,rfl, ?_⟩;refine Rt ?_;repeat((first|refine aM bi ?_|refine aC g3 ?_);refine Rt ?_)
   have hstep:=sL (B:=4294967296) (by decide) (s:=s) (x:=u) (y:=v) rfl h4;have hdv:(c+(u+v))/4294967296<=1:=by omega
   have hmd:(c+(u+v))%4294967296<4294967296:=VY _ (by decide);exact .mk (s++[(c+(u+v))%4294967296],(c+(u+v))/4294967296) [(0,0),(1,1)] ⟨by simp;omega,iV h2 hmd,hdv,by simp only[UV,Ut];rw[iI hu,iI hv];exact hstep⟩
    (aF _ rfl ⟨⟨0,_,rfl,rfl,.eq (aV _) (KI (by omega))⟩,aK 1 (xP _ _),trivial⟩
     ⟨aQ (.il' (aV _)),aQ (.il' (aV _)),⟨_,rfl,.slE rfl rfl⟩,aI,⟨_,rfl,(.fn _ _ _ _ _ rfl rfl (by simp) (jJ.cons (.ptr 1 1 0 0 rfl) .nil).2)⟩,aJ,⟨_,rfl,.w64 (by simp) ⟨by simp;omega,by simp;omega⟩⟩,trivial⟩) (by simp;omega)
  ·skip;have hlt:s.length=b.length:=by simp at hb;omega
   rw[hlt,UM] at h4;refine Rr ?_;refine bA.at bB (fun p:List Nat × Nat=>b.length<=p.1.length/\p.1.length<=a.length/\(∀d∈p.1,d<4294967296)/\p.2<=1/\vl 4294967296 p.1+4294967296 ^ p.1.length*p.2=vl 4294967296 (a.take p.1.length)+vl 4294967296 b)
    (fun p=>⟨[(0,.il 1 (bM a)),(5,.sl 0 0 (a.length+1)),(6,.ptr 1 0 0),(7,.fn (.func 174) [] [.ptr 1 0 0]),(9,.int .i64 p.1.length)],[(0,.row 81 1 (bM (g8 p.1 (a.length+1)))),(1,.row 156 1 [.int .u64 (p.2:Int)])],2,66⟩)
    (fun p=>a.length-p.1.length) (s,c) [(0,0),(1,1)] ⟨by simp only;omega,by simp only;omega,h2,h3,by simp only;rw[hlt];exact h4⟩
    (aF _ rfl ⟨aK 0 (aV _),aK 1 (xP _ _),trivial⟩
     ⟨aQ (.il' (aV _)),⟨_,rfl,.slE rfl rfl⟩,aI,⟨_,rfl,(.fn _ _ _ _ _ rfl rfl (by simp) (jJ.cons (.ptr 1 1 0 0 rfl) .nil).2)⟩,⟨_,rfl,.int (by rw[a9,hlt])⟩,trivial⟩) ?_
   clear h1 h2 h3 h4 hlt hb s c;rintro⟨s,c⟩ ⟨h0,h1,h2,h3,h4⟩;simp only at h0 h1 h2 h3 h4 ⊢;refine Rr ?_;rw[a9];refine aD (fun hb=>?_) (fun hb=>?_)
   ·have hlt:s.length<a.length:=by simpa using hb
    obtain⟨u,hu⟩:∃u,a[s.length]? = some u:=⟨_,Ty (by omega)⟩
    have hul:=hla _ (UA hu);have g1:=zW hu;have g3:=Ky (s:=s) (n:=a.length+1) (by omega);have bi:=qY (i:=s.length) (n:=a.length+1) (by omega);refine Rr ?_;repeat((first|refine aC g1 ?_|refine bH ?_);refine Rr ?_)
    refine aE.useN bB [(1,0)] (xN u 0 c hul (by decide) (by omega)) rfl (.s (.s (.cons (.ptr 1 0 0 0 rfl) .nil))) ⟨aK 1 (xP _ _),trivial⟩ rfl ?_;rintro r' m' n' ⟨rfl,rfl,rfl⟩;refine⟨[(0,1)],_,[(1,.row 156 1 [.int .u64 (((c+(u+0))/4294967296:Nat):Int)])],2,.same _ nn,⟨aK 0 (xP _ _),trivial⟩,rfl, ?_⟩;refine Rt ?_;repeat((first|refine aM bi ?_|refine aC g3 ?_);refine Rt ?_)
    have hstep:=sL (B:=4294967296) (by decide) (s:=s) (x:=u) (y:=0) rfl h4;have hdv:(c+(u+0))/4294967296<=1:=by omega
    have hmd:(c+(u+0))%4294967296<4294967296:=VY _ (by decide);exact .mk (s++[(c+(u+0))%4294967296],(c+(u+0))/4294967296) [(0,0),(1,1)] ⟨by simp;omega,by simp;omega,iV h2 hmd,hdv,by simp only[UV,Ut];rw[iI hu];simpa using hstep⟩
     (aF _ rfl ⟨⟨0,_,rfl,rfl,.eq (aV _) (KI (by omega))⟩,aK 1 (xP _ _),trivial⟩
      ⟨aQ (.il' (aV _)),⟨_,rfl,.slE rfl rfl⟩,aI,⟨_,rfl,(.fn _ _ _ _ _ rfl rfl (by simp) (jJ.cons (.ptr 1 1 0 0 rfl) .nil).2)⟩,⟨_,rfl,.w64 (by simp) ⟨by simp;omega,by simp;omega⟩⟩,trivial⟩) (by simp;omega)
   ·have hlt:s.length=a.length:=by simp at hb;omega
    rw[hlt,UM,hsum] at h4;have bi:=qY (i:=s.length) (n:=s.length+1) (by omega);have g3:=Ky (s:=s) (n:=s.length+1) (by omega);have hcw:IntKind.u32.wrap (c:Int)=(c:Int):=Oy (by omega);have hz:eG (s++[c])=dg 4294967296 S:=by
     rw[kQ hB _ (iV h2 (by omega)),wY,hlt,h4]
    refine Rr ?_;rw[a9,←hlt];refine Rs ?_;repeat((first|refine aM bi ?_|refine aC g3 ?_);refine Rt ?_)
    refine aE.pre bB [] (mem':=[]) rfl trivial (.cons (.fz' (id:=0) (ys:=bM (s++[c])) rfl rfl (by simp[a9,l7]) (by
     rw[hcw,KI (by omega),Ub,UB (by rw[a9,l7]<;>simp)];simp[g8]) (aV _)) .nil) ?_
    refine(Br (s++[c]) (by simp;omega)).go ?_ (.cons (.il' (aV _)) .nil) (.il' (aV _));rw[hz];refine Rr ?_;exact aA (.il' (aV _)) ⟨rfl,rfl,rfl⟩
theorem TT(x y:Nat)(hx:(dg 4294967296 x).length<=1000000)(hy:(dg 4294967296 y).length<=1000000):aZ prog [] 104 [.il 1 (bM (dg 4294967296 x)),.il 1 (bM (dg 4294967296 y))] (.il 1 (bM (dg 4294967296 (x+y)))):=by
 have hB:(2:Nat)<=4294967296:=by decide
 have h:=Sh _ _ (eS hB x) (eS hB y) hx hy;rw[fK hB,fK hB] at h;exact h
set_option maxRecDepth 100000
set_option maxHeartbeats 16000000
def Gj(b n:Nat)(l:List Nat):aN:=[(0,.row 156 1 [.int .u64 (b:Int)]),(1,.row 31 1 [.sl 2 0 n]),(2,.row 81 1 (bM l))]
theorem oR{mem:aN}{σ:List (Nat × Nat)}{i j n m:Nat}(h:lk σ i=some j)(e:n=m):rI mem σ [.sl i 0 n] [.sl j 0 m]:=.cons (.one rfl rfl (.slE h e)) .nil
theorem TA{x y b:Nat}(hx:x<4294967296)(hy:y<4294967296)(hb:b<=1):IntKind.u32.wrap ((x:Int)-IntKind.u32.wrap ((y+b:Nat):Int))=((if y+b>x then x+4294967296-(y+b) else x-(y+b):Nat):Int):=by
 rw[SP,Gz];split<;>omega
theorem F0(l:List Nat)(i x y b n:Nat)(hn:l.length=n)(hi:l[i]? = some x)(hx:x<4294967296)(hy:y<4294967296)(hb:b<=1)(hnn:n<=1000000) :
  aE prog [] 175 [.int .i64 i,.int .u32 y,.ptr 0 0 0,.ptr 1 0 0] (Gj b n l) 3
  fun r m k=>r = .tup []/\m=Gj (if y+b>x then 1 else 0) n (l.set i (if y+b>x then x+4294967296-(y+b) else x-(y+b)))/\k=3:=by
 have hil:=(T0.1 hi).1;have e1:IntKind.u64.wrap (y:Int)=(y:Int):=zO (by omega);have e2:IntKind.u64.wrap ((y:Int)+(b:Int))=((y+b:Nat):Int):=by rw[←VG];exact zO (by omega)
 have e3:IntKind.u64.wrap (x:Int)=(x:Int):=zO (by omega);have g:=Jb hi;have bi:=qY (i:=i) (n:=n) (by omega);refine aG bB func175 rfl ?_;refine Rr ?_;rw[e1,e2];repeat((first|refine aM bi ?_|refine aC g ?_|refine bH ?_);refine Rr ?_)
 rw[e3];have hW:=TA hx hy hb;refine aD (fun hc=>?_) (fun hc=>?_)
 all_goals
  refine Rt ?_;repeat((first|refine aM bi ?_|refine aC g ?_);refine Rt ?_)
 ·have hc:y+b>x:=by simp at hc;omega
  rw[T7 hc] at hW ⊢;rw[T7 hc];exact bJ (n':=3) (m':=Gj 1 n (l.set i (x+4294967296-(y+b)))) [(0,0),(1,1),(2,2)] rfl ⟨aK 0 (xP _ _),⟨1,_,rfl,rfl,oR rfl rfl⟩,⟨2,_,rfl,rfl,.eq (aV _) (by rw[hW,T4,UT,s7])⟩,trivial⟩ (.same _ nn) ⟨rfl,rfl,rfl⟩
 ·have hc:¬y+b>x:=by simp at hc;omega
  rw[T5 hc] at hW ⊢;rw[T5 hc];exact bJ (n':=3) (m':=Gj 0 n (l.set i (x-(y+b)))) [(0,0),(1,1),(2,2)] rfl ⟨aK 0 (xP _ _),⟨1,_,rfl,rfl,oR rfl rfl⟩,⟨2,_,rfl,rfl,.eq (aV _) (by rw[hW,T4,UT,s7])⟩,trivial⟩ (.same _ nn) ⟨rfl,rfl,rfl⟩
theorem rV(B:Nat)(a:List Nat)(i:Nat)(hi:i<=a.length):vl B a=vl B (a.take i)+B ^ i*vl B (a.drop i):=Ii B a i hi
theorem JP{s a:List Nat}{u:Nat}(h:a[s.length]? = some u):(s++a.drop s.length)[s.length]? = some u:=by
 rw[Uf (UC _),Wu,Up,Vi];exact h
theorem JE{s a:List Nat}{u:Nat}(h:a[s.length]? = some u)(d:Nat):(s++a.drop s.length).set s.length d=(s++[d])++a.drop (s++[d]).length:=by
 obtain⟨h1,h2⟩:=T0.1 h;rw[WL _ _ (UC _),Wu,UU h1,Wb,UV,Ut];simp
theorem SA{a b:Bool}{n m k:Nat}(ha:a=true)(hb:b=true)(h1:n<=m)(h2:m<=k):(a && (b && (Nat.ble n m && Nat.ble m k)))=true:=by
 rw[ha,hb,T8 h1,T8 h2];rfl
theorem Sj(x y:Nat)(hxy:y<=x)(hx:(dg 4294967296 x).length<=1000000):aZ prog [] 105 [.il 1 (bM (dg 4294967296 x)),.il 1 (bM (dg 4294967296 y))] (.il 1 (bM (dg 4294967296 (x-y)))):=by
 have hB:(2:Nat)<=4294967296:=by decide
 have hla:=eS hB x;have hlb:=eS hB y;have hva:=fK hB x;have hvb:=fK hB y;have hlen:(dg 4294967296 y).length<=(dg 4294967296 x).length:=dJ hB hxy;generalize dg 4294967296 x=a at *;generalize dg 4294967296 y=b at *;refine aG bB func105 rfl ?_;refine Rr ?_;rw[a9];refine aM (Dx rfl rfl rfl (by omega) rfl) ?_;refine Rt ?_;refine aM (SA rfl rfl (by rw[a9,T4];omega) (by rw[WK];omega)) ?_;refine Rt ?_;refine bA.at bB (fun p:List Nat × Nat=>p.1.length<=b.length/\(∀d∈p.1,d<4294967296)/\p.2<=1/\vl 4294967296 p.1+vl 4294967296 (b.take p.1.length)=vl 4294967296 (a.take p.1.length)+4294967296 ^ p.1.length*p.2)
  (fun p=>⟨[(1,.il 1 (bM b)),(5,.ptr 1 0 0),(6,.ptr 0 0 0),(7,.fn (.func 175) [] [.ptr 0 0 0,.ptr 1 0 0]),(18,.il 1 (bM b)),(19,.int .i64 b.length),(20,.int .i64 p.1.length)],Gj p.2 a.length (p.1++a.drop p.1.length),3,47⟩)
  (fun p=>b.length-p.1.length) ([],0) [(2,0),(1,1),(0,2)] ⟨by simp,by simp,by simp,by simp[vl]⟩
  (aF _ rfl ⟨aK 2 (xP _ _),⟨1,_,rfl,rfl,oR rfl (by simp)⟩,⟨0,_,rfl,rfl,.eq (aV _) (by simp[bM])⟩,trivial⟩
   ⟨aQ (.il' (aV _)),aI,aI,⟨_,rfl,(.fn _ _ _ _ _ rfl rfl (by simp) (jJ.cons (.ptr 2 0 0 0 rfl) (.cons (.ptr 1 1 0 0 rfl) .nil)).2)⟩,aQ (.il' (aV _)),⟨_,rfl,.int (by rw[a9])⟩,aJ,trivial⟩) ?_
 rintro⟨s,c⟩ ⟨h1,h2,h3,h4⟩;simp only at h1 h2 h3 h4 ⊢;refine Rr ?_;refine aD (fun hb=>?_) (fun hb=>?_)
 ·have hlt:s.length<b.length:=by simpa using hb
  obtain⟨u,hu⟩:∃u,a[s.length]? = some u:=⟨_,Ty (by omega)⟩
  obtain⟨v,hv⟩:∃v,b[s.length]? = some v:=⟨_,Ty (by omega)⟩
  have hul:=hla _ (UA hu);have hvl:=hlb _ (UA hv);have g2:=zW hv;have hll:(s++a.drop s.length).length=a.length:=by simp;omega
  refine Rr ?_;repeat((first|refine aC g2 ?_|refine bH ?_);refine Rr ?_)
  refine aE.useN bB [(0,0),(1,1),(2,2)] (F0 _ s.length u v c a.length hll (JP hu) hul hvl h3 (by omega)) rfl (.s (.s (.cons (.ptr 0 0 0 0 rfl) (.cons (.ptr 1 1 0 0 rfl) .nil)))) ⟨aK 0 (xP _ _),⟨1,_,rfl,rfl,oR rfl rfl⟩,aK 2 (aV _),trivial⟩ rfl ?_;rintro r' m' n' ⟨rfl,rfl,rfl⟩;rw[JE hu];have hstep:=C8 (B:=4294967296) (s:=s) (x:=u) (y:=v) (b:=c) rfl h4 hul hvl h3;have hdg:=zU (B:=4294967296) (x:=u) (y:=v) (b:=c) hul hvl h3;generalize (if v+c>u then u+4294967296-(v+c) else u-(v+c))=d at hstep hdg ⊢;have hbo:(if v+c>u then 1 else 0)<=1:=by split<;>omega
  generalize (if v+c>u then 1 else 0)=bo at hstep hbo ⊢;refine⟨[(0,0),(1,1),(2,2)],_,Gj bo a.length ((s++[d])++a.drop (s++[d]).length),3,.same _ nn,⟨aK 0 (xP _ _),⟨1,_,rfl,rfl,oR rfl rfl⟩,aK 2 (aV _),trivial⟩,rfl, ?_⟩;refine Rr ?_;exact .mk (s++[d],bo) [(0,0),(1,1),(2,2)] ⟨by simp;omega,iV h2 hdg,hbo,by simp only[UV,Ut];rw[iI hu,iI hv];exact hstep⟩
   (aF _ rfl ⟨aK 0 (xP _ _),⟨1,_,rfl,rfl,oR rfl rfl⟩,aK 2 (aV _),trivial⟩
    ⟨aQ (.il' (aV _)),aI,aI,⟨_,rfl,(.fn _ _ _ _ _ rfl rfl (by simp) (jJ.cons (.ptr 0 0 0 0 rfl) (.cons (.ptr 1 1 0 0 rfl) .nil)).2)⟩,aQ (.il' (aV _)),aJ,⟨_,rfl,.w64 (by simp) ⟨by simp;omega,by simp;omega⟩⟩,trivial⟩) (by simp;omega)
 ·have hlt:s.length=b.length:=by simp at hb;omega
  rw[hlt,UM,hvb] at h4;refine Rr ?_;refine bA.at bB (fun p:List Nat × Nat=>p.1.length<=a.length/\(∀d∈p.1,d<4294967296)/\p.2<=1/\vl 4294967296 p.1+y=vl 4294967296 (a.take p.1.length)+4294967296 ^ p.1.length*p.2)
   (fun p=>⟨[(5,.ptr 1 0 0),(6,.ptr 0 0 0),(7,.fn (.func 175) [] [.ptr 0 0 0,.ptr 1 0 0]),(10,.int .i64 p.1.length)],Gj p.2 a.length (p.1++a.drop p.1.length),3,47⟩)
   (fun p=>a.length-p.1.length) (s,c) [(0,0),(1,1),(2,2)] ⟨by simp only;omega,h2,h3,by simp only;rw[hlt];exact h4⟩
   (aF _ rfl ⟨aK 0 (xP _ _),⟨1,_,rfl,rfl,oR rfl rfl⟩,aK 2 (aV _),trivial⟩
    ⟨aI,aI,⟨_,rfl,(.fn _ _ _ _ _ rfl rfl (by simp) (jJ.cons (.ptr 0 0 0 0 rfl) (.cons (.ptr 1 1 0 0 rfl) .nil)).2)⟩,⟨_,rfl,.int (by rw[a9,hlt])⟩,trivial⟩) ?_
  clear h1 h2 h3 h4 hlt hb s c;rintro⟨s,c⟩ ⟨h1,h2,h3,h4⟩;simp only at h1 h2 h3 h4 ⊢;refine Rr ?_;have hsp:=rV 4294967296 a s.length h1;refine aD (fun hb=>?_) (fun hb=>?_)
  ·rw[hb];have hlt:s.length<a.length:=by simpa using hb
   refine Rr ?_;refine aD (fun hc=>?_) (fun hc=>?_)
   ·obtain⟨u,hu⟩:∃u,a[s.length]? = some u:=⟨_,Ty (by omega)⟩
    have hul:=hla _ (UA hu);have hll:(s++a.drop s.length).length=a.length:=by simp;omega
    refine Rt ?_;refine aE.useN bB [(0,0),(1,1),(2,2)] (F0 _ s.length u 0 c a.length hll (JP hu) hul (by decide) h3 (by omega)) rfl (.s (.s (.cons (.ptr 0 0 0 0 rfl) (.cons (.ptr 1 1 0 0 rfl) .nil)))) ⟨aK 0 (xP _ _),⟨1,_,rfl,rfl,oR rfl rfl⟩,aK 2 (aV _),trivial⟩ rfl ?_;rintro r' m' n' ⟨rfl,rfl,rfl⟩;rw[JE hu];have hstep:=C8 (B:=4294967296) (s:=s) (x:=u) (y:=0) (b:=c) rfl h4 hul (by decide) h3;have hdg:=zU (B:=4294967296) (x:=u) (y:=0) (b:=c) hul (by decide) h3;generalize (if 0+c>u then u+4294967296-(0+c) else u-(0+c))=d at hstep hdg ⊢;have hbo:(if 0+c>u then 1 else 0)<=1:=by split<;>omega
    generalize (if 0+c>u then 1 else 0)=bo at hstep hbo ⊢;refine⟨[(0,0),(1,1),(2,2)],_,Gj bo a.length ((s++[d])++a.drop (s++[d]).length),3,.same _ nn,⟨aK 0 (xP _ _),⟨1,_,rfl,rfl,oR rfl rfl⟩,aK 2 (aV _),trivial⟩,rfl, ?_⟩;refine Rr ?_;exact .mk (s++[d],bo) [(0,0),(1,1),(2,2)] ⟨by simp;omega,iV h2 hdg,hbo,by simp only[UV,Ut];rw[iI hu];simpa using hstep⟩
     (aF _ rfl ⟨aK 0 (xP _ _),⟨1,_,rfl,rfl,oR rfl rfl⟩,aK 2 (aV _),trivial⟩
      ⟨aI,aI,⟨_,rfl,(.fn _ _ _ _ _ rfl rfl (by simp) (jJ.cons (.ptr 0 0 0 0 rfl) (.cons (.ptr 1 1 0 0 rfl) .nil)).2)⟩,⟨_,rfl,.w64 (by simp) ⟨by simp;omega,by simp;omega⟩⟩,trivial⟩) (by simp;omega)
   ·have hc0:c=0:=by simp at hc;omega
    subst hc0;have hV:vl 4294967296 (s++a.drop s.length)=x-y:=by rw[kA];omega
    refine Rt ?_;have hL:∀d∈s++a.drop s.length,d<4294967296:=fun d hd=>by
     rcases UI.1 hd with hd|hd
     ·exact h2 d hd
     ·exact hla d (Us hd)
    have hll:(s++a.drop s.length).length=a.length:=by simp;omega
    have hz:eG (s++a.drop s.length)=dg 4294967296 (x-y):=by rw[kQ hB _ hL,hV]
    refine aE.pre bB [] (mem':=[]) rfl trivial (.cons (.fz' (id:=2) (ys:=bM (s++a.drop s.length)) rfl rfl (by rw[a9,hll];omega) (by rw[Ub,UB (by rw[a9,hll];omega)]) (aV _)) .nil) ?_;refine(Br (s++a.drop s.length) (by rw[hll];omega)).go ?_ (.cons (.il' (aV _)) .nil) (.il' (aV _));rw[hz];refine Rr ?_;exact aA (.il' (aV _)) ⟨rfl,rfl,rfl⟩
  ·rw[hb];have hlt:s.length=a.length:=by simp at hb;omega
   have hc0:c=0:=by
    rcases UK c with e|e
    ·exact e
    ·have hc1:c=1:=by omega
     have:=CR hB s h2;rw[hlt,UM,hva,hc1] at h4;rw[hlt] at this;omega
   subst hc0;have hV:vl 4294967296 (s++a.drop s.length)=x-y:=by rw[kA];omega
   refine Rt ?_;have hL:∀d∈s++a.drop s.length,d<4294967296:=fun d hd=>by
    rcases UI.1 hd with hd|hd
    ·exact h2 d hd
    ·exact hla d (Us hd)
   have hll:(s++a.drop s.length).length=a.length:=by simp;omega
   have hz:eG (s++a.drop s.length)=dg 4294967296 (x-y):=by rw[kQ hB _ hL,hV]
   refine aE.pre bB [] (mem':=[]) rfl trivial (.cons (.fz' (id:=2) (ys:=bM (s++a.drop s.length)) rfl rfl (by rw[a9,hll];omega) (by rw[Ub,UB (by rw[a9,hll];omega)]) (aV _)) .nil) ?_;refine(Br (s++a.drop s.length) (by rw[hll];omega)).go ?_ (.cons (.il' (aV _)) .nil) (.il' (aV _));rw[hz];refine Rr ?_;exact aA (.il' (aV _)) ⟨rfl,rfl,rfl⟩
set_option maxRecDepth 100000
set_option maxHeartbeats 16000000
theorem Ov{x y p c:Nat}(hx:x<4294967296)(hy:y<4294967296)(hp:p<4294967296)(hc:c<4294967296):x*y<=18446744065119617025/\x*y+p<18446744073709551616/\c+(x*y+p)<18446744073709551616/\(c+(x*y+p))/4294967296<4294967296:=by
 have h:x*y<=4294967295*4294967295:=VO (by omega) (by omega);refine⟨by omega,by omega,by omega, ?_⟩;rw[V3 (by omega)];omega
theorem qN{l:List Nat}{i k d:Nat}(h:i≠k):(l.set i d)[k]? = l[k]? := by rw[V6,T5 h]
theorem TH(x y:Nat)(hx:(dg 4294967296 x).length<=1000000)(hy:(dg 4294967296 y).length<=1000000):aZ prog [] 55 [.il 1 (bM (dg 4294967296 x)),.il 1 (bM (dg 4294967296 y))] (.il 1 (bM (dg 4294967296 (x*y)))):=by
 have hB:(2:Nat)<=4294967296:=by decide
 have hla:=eS hB x;have hlb:=eS hB y;have hva:=fK hB x;have hvb:=fK hB y;generalize dg 4294967296 x=a at *;generalize dg 4294967296 y=b at *;refine aG bB func55 rfl ?_;refine Rr ?_;rw[a9,a9];have hw:IntKind.i64.wrap ((a.length:Int)+(b.length:Int))=((a.length+b.length:Nat):Int):=by rw[bE ⟨by omega,by omega⟩];omega
 rw[hw];refine aM (Dx rfl rfl rfl (by omega) rfl) ?_;refine Rr ?_;refine bA.at bB (fun p:Nat × List Nat=>p.1<=a.length/\p.2.length=a.length+b.length/\(∀d∈p.2,d<4294967296)/\vl 4294967296 p.2=vl 4294967296 (a.take p.1)*y/\∀k,p.1+b.length<=k->k<a.length+b.length->p.2[k]? = some 0)
  (fun p=>⟨[(1,.il 1 (bM b)),(5,.sl 0 0 (a.length+b.length)),(17,.il 1 (bM a)),(18,.int .i64 a.length),(19,.int .i64 p.1)],[(0,.row 81 1 (bM p.2))],1,67⟩)
  (fun p=>a.length-p.1) (0,List.replicate (a.length+b.length) 0) [(0,0)] ⟨by simp,by simp,by simp,by simp only;rw[wX];simp[vl],fun k h1 h2=>by simp only;rw[VN,T7 h2]⟩
  (aF _ rfl ⟨⟨0,_,rfl,rfl,.eq (aV _) (by rw[Hg,T4])⟩,trivial⟩
   ⟨aQ (.il' (aV _)),⟨_,rfl,.slE rfl (T4 _)⟩,aQ (.il' (aV _)),⟨_,rfl,.int (by rw[a9])⟩,aJ,trivial⟩) ?_
 rintro⟨i,P⟩ ⟨h1,h2,h3,h4,h5⟩;simp only at h1 h2 h3 h4 h5 ⊢;refine Rr ?_;refine aD (fun hb=>?_) (fun hb=>?_)
 ·have hlt:i<a.length:=by simpa using hb
  obtain⟨u,hu⟩:∃u,a[i]? = some u:=⟨_,Ty hlt⟩
  have hul:=hla _ (UA hu);have g1:=zW hu;refine Rr ?_;refine aC g1 ?_;refine Rr ?_;refine bA.at bB (fun p:Nat × List Nat × Nat=>p.1<=b.length/\p.2.1.length=a.length+b.length/\(∀d∈p.2.1,d<4294967296)/\p.2.2<4294967296 /\
    vl 4294967296 p.2.1+4294967296 ^ (i+p.1)*p.2.2=vl 4294967296 (a.take i)*y+u*(4294967296 ^ i*vl 4294967296 (b.take p.1))/\∀k,i+b.length<=k->k<a.length+b.length->p.2.1[k]? = some 0)
   (fun p=>⟨[(1,.il 1 (bM b)),(5,.sl 0 0 (a.length+b.length)),(6,.int .i64 i),(7,.int .u32 u),(8,.int .u64 (p.2.2:Int)),(17,.il 1 (bM a)),(18,.int .i64 a.length),(19,.int .i64 i),(24,.il 1 (bM b)),(25,.int .i64 b.length),(26,.int .i64 p.1)],[(0,.row 81 1 (bM p.2.1))],1,67⟩)
   (fun p=>b.length-p.1) (0,P,0) [(0,0)] ⟨by simp,h2,h3,by simp,by simp only;rw[h4];simp[vl],h5⟩
   (aF _ rfl ⟨aK 0 (aV _),trivial⟩
    ⟨aQ (.il' (aV _)),⟨_,rfl,.slE rfl rfl⟩,aJ,aJ,aJ,aQ (.il' (aV _)),aJ,aJ,aQ (.il' (aV _)),⟨_,rfl,.int (by rw[a9])⟩,aJ,trivial⟩) ?_
  rintro⟨j,Q,c⟩ ⟨h0,k2,k3,hc,k4,k5⟩;simp only at h0 k2 k3 hc k4 k5 ⊢;refine Rr ?_;refine aD (fun hb=>?_) (fun hb=>?_)
  ·have hlt2:j<b.length:=by simpa using hb
   obtain⟨v,hv⟩:∃v,b[j]? = some v:=⟨_,Ty hlt2⟩
   obtain⟨p,hp⟩:∃p,Q[i+j]? = some p:=⟨_,Ty (by omega)⟩
   have hvl:=hlb _ (UA hv);have hpl:=k3 _ (UA hp);have g2:=zW hv;have g3:=Jb hp;have bi:=qY (i:=i+j) (n:=a.length+b.length) (by omega);obtain⟨q1,q2,q3,q4⟩:=Ov hul hvl hpl hc;have e1:IntKind.u64.wrap (u:Int)=(u:Int):=zO (by omega);have e2:IntKind.u64.wrap (v:Int)=(v:Int):=zO (by omega);have e3:IntKind.u64.wrap ((u:Int)*(v:Int))=((u*v:Nat):Int):=by rw[←Vf];exact zO (by omega)
   have e4:IntKind.i64.wrap ((i:Int)+(j:Int))=((i+j:Nat):Int):=by rw[bE ⟨by omega,by omega⟩];omega
   have e5:IntKind.u64.wrap (p:Int)=(p:Int):=zO (by omega);have e6:IntKind.u64.wrap (((u*v:Nat):Int)+(p:Int))=((u*v+p:Nat):Int):=by rw[←VG];exact zO (by omega)
   have e7:IntKind.u64.wrap ((c:Int)+((u*v+p:Nat):Int))=((c+(u*v+p):Nat):Int):=by rw[←VG];exact zO (by omega)
   refine Rr ?_;refine aC g2 ?_;refine Rr ?_;rw[e1,e2,e3,e4];repeat((first|refine aM bi ?_|refine aC g3 ?_|refine bH ?_);refine Rr ?_)
   rw[e5,e6,e7];refine Rs ?_;repeat((first|rw[e4]|refine aM bi ?_|refine aC g3 ?_);refine Rt ?_)
   have hms:=Fs (B:=4294967296) hp k4 (y:=v);have hmd:(c+(u*v+p))%4294967296<4294967296:=VY _ (by decide);exact .mk (j+1,Q.set (i+j) ((c+(u*v+p))%4294967296),(c+(u*v+p))/4294967296) [(0,0)]
    ⟨by simp only;omega,by simp only[Vm];exact k2,Ec k3 hmd,q4,by
      simp only;rw[iI hv,U2 (4294967296 ^ i),←VK (4294967296 ^ i) (4294967296 ^ j),←W3];exact hms,fun k z1 z2=>by simp only;rw[qN (by omega)];exact k5 k z1 z2⟩
    (aF _ rfl ⟨⟨0,_,rfl,rfl,.eq (aV _) (by rw[SP,T4,UT,s7])⟩,trivial⟩
     ⟨aQ (.il' (aV _)),⟨_,rfl,.slE rfl rfl⟩,aJ,aJ,⟨_,rfl,.int Go.Ax.LT⟩,aQ (.il' (aV _)),aJ,aJ,aQ (.il' (aV _)),aJ,⟨_,rfl,.w64 (by simp) ⟨by simp only;omega,by simp only;omega⟩⟩,trivial⟩) (by simp only;omega)
  ·have hj:j=b.length:=by simp at hb;omega
   subst hj;rw[UM,hvb] at k4;have e4:IntKind.i64.wrap ((i:Int)+(b.length:Int))=((i+b.length:Nat):Int):=by rw[bE ⟨by omega,by omega⟩];omega
   have hp:=k5 (i+b.length) (by omega) (by omega);have g3:=Jb hp;have bi:=qY (i:=i+b.length) (n:=a.length+b.length) (by omega);have hvs:=Ee 4294967296 Q (i+b.length) c 0 hp;refine Rr ?_;rw[a9,e4];refine Rs ?_;repeat((first|refine aM bi ?_|refine aC g3 ?_);refine Rt ?_)
   exact .mk (i+1,Q.set (i+b.length) c) [(0,0)]
    ⟨by simp only;omega,by simp only[Vm];exact k2,Ec k3 hc,by
      simp only;rw[iI hu,UZ,VK (4294967296 ^ i),We (4294967296 ^ i),←k4];omega,fun k z1 z2=>by simp only;rw[qN (by omega)];exact k5 k (by omega) z2⟩
    (aF _ rfl ⟨⟨0,_,rfl,rfl,.eq (aV _) (by rw[Oy hc,T4,UT,s7])⟩,trivial⟩
     ⟨aQ (.il' (aV _)),⟨_,rfl,.slE rfl rfl⟩,aQ (.il' (aV _)),aJ,⟨_,rfl,.w64 (by simp) ⟨by simp only;omega,by simp only;omega⟩⟩,trivial⟩) (by simp only;omega)
 ·have hi:i=a.length:=by simp at hb;omega
  subst hi;rw[UM,hva] at h4;have hz:eG P=dg 4294967296 (x*y):=by rw[kQ hB _ h3,h4]
  refine Rr ?_;refine aE.pre bB [] (mem':=[]) rfl trivial (.cons (.fz' (id:=0) (ys:=bM P) rfl rfl (by rw[a9,h2];omega) (by rw[Ub,UB (by rw[a9,h2];omega)]) (aV _)) .nil) ?_;refine(Br P (by rw[h2];omega)).go ?_ (.cons (.il' (aV _)) .nil) (.il' (aV _));rw[hz];refine Rr ?_;exact aA (.il' (aV _)) ⟨rfl,rfl,rfl⟩
set_option maxRecDepth 100000
set_option maxHeartbeats 16000000
theorem v7{B:Nat}(hB:2<=B):∀l:List Nat,(∀d∈l,d<B)->l=g8 (dg B (vl B l)) l.length
 | [],_=>by simp[vl,gC,g8]
 | d::r,h=>by
  have ih:=v7 hB r fun x hx=>h x (by simp[hx])
  have hd:=h d (by simp);rcases UK (d+B*vl B r) with e|e
  ·have hd0:d=0:=by omega
   have hv0:vl B r=0:=by
    rcases UK (vl B r) with h1|h1
    ·exact h1
    ·have:=WN (show 0<B by omega) h1;omega
   rw[hv0,gC] at ih;rw[vl,hv0,hd0,W8,UT,gC]
   conv=>lhs;rw[ih]
   simp[g8,VF]
  ·rw[vl,Iz hB hd e]
   conv=>lhs;rw[ih]
   simp[g8]
def wQ(m:Nat)(R:List Nat):List Nat:=List.replicate m 0++R
theorem Mp{i:Nat}{R:List Nat}:(wQ (i+1) R)[i]? = some 0:=by
 unfold wQ;rw[UY (by simp),VN,T7 (by omega)]
theorem M6{i d:Nat}{R:List Nat}:(wQ (i+1) R).set i d=wQ i (d::R):=by
 unfold wQ;rw[List.replicate_succ',Ur,WL _ _ (by simp)];simp
set_option maxRecDepth 100000
set_option maxHeartbeats 16000000
set_option maxRecDepth 100000
set_option maxHeartbeats 16000000
theorem xB{L:List Nat}{n i u:Nat}(h:L[i]? = some u)(hi:i<n):(L.take n)[i]? = some u:=by rw[Ua,T7 hi];exact h
set_option maxRecDepth 100000
set_option maxHeartbeats 16000000
set_option maxRecDepth 100000
set_option maxHeartbeats 16000000
set_option maxRecDepth 100000
set_option maxHeartbeats 16000000
set_option maxRecDepth 100000
set_option maxHeartbeats 16000000
set_option maxRecDepth 100000
set_option maxHeartbeats 16000000
set_option maxRecDepth 100000
set_option maxHeartbeats 16000000
structure Tw(qn lx V X m:Nat)(N R:List Nat):Prop where
 a1:m<=qn
 a2:N.length=lx+1
 a3:∀d∈N,d<4294967296
 a4:R.length=qn-m
 a5:∀d∈R,d<4294967296
 a6:vl 4294967296 R*4294967296 ^ m*V+vl 4294967296 N=X
 a7:vl 4294967296 N<V*4294967296 ^ m
set_option maxRecDepth 100000
set_option maxHeartbeats 16000000
theorem tB(b:Bool):NN (.bool b):=.bool b
theorem tU(l:List Nat):NN (.il 1 (bM l)):=.il' (aV l)
theorem Hp(n:Nat):eG (dg 4294967296 n)=dg 4294967296 n:=by
 have hB:(2:Nat)<=4294967296:=by decide
 rw[kQ hB _ (eS hB n),fK hB]
theorem A0(neg:Bool)(n:Nat):fW (sg neg n) = .agg [.bool (neg && decide (0<n)),.il 1 (bM (dg 4294967296 n))]:=by
 unfold fW;rw[Cw,M9]
theorem E0(neg:Bool)(n:Nat)(hn:(dg 4294967296 n).length<=4294967296):aZ prog [] 103 [.bool neg,.il 1 (bM (dg 4294967296 n))] (fW (sg neg n)):=by
 have ht:=Br (dg 4294967296 n) hn;rw[Hp] at ht;have hw:=BE (sg neg n);have hz:=kF (B:=4294967296) (n:=n) (by decide);rw[A0] at hw ⊢;generalize dg 4294967296 n=l at *;refine aG bB func103 rfl ?_;refine Rr ?_;refine ht.go ?_ (.cons (tU _) .nil) (tU _);have hlz:decide (((bM l).length:Int)>0)=decide (0<n):=by
  rw[a9,←hz,Va];omega
 cases neg with
 | false=>
  refine Rt ?_;exact aA hw ⟨rfl,rfl,rfl⟩
 | true=>
  refine Rr ?_;rw[hlz];refine Rs ?_;exact aA hw ⟨rfl,rfl,rfl⟩
theorem SV:fW 0 = .agg [.bool false,.il 1 []]:=by simp[fW,gC,bM]
def Au(z:Int):AV:=if oG z=true then .tup [fW z,.int .i64 0] else .tup [fW 0,.int .i64 4]
theorem PP(z:Int):NN (Au z):=by
 unfold Au;split
 ·exact .tup' (.cons (BE _) (.cons nn .nil))
 ·exact .tup' (.cons (BE _) (.cons nn .nil))
theorem Io(neg:Bool)(n:Nat)(hn:(dg 4294967296 n).length<=4294967296):aZ prog [] 54 [.bool neg,.il 1 (bM (dg 4294967296 n))] (Au (sg neg n)):=by
 have hm:=E0 neg n hn;have hw:=BE (sg neg n);have hr:=PP (sg neg n);have hf:oG (sg neg n)=decide ((dg 4294967296 n).length<=512):=by have:=@Cz (sg neg n);rw[Cw] at this;exact this
 rw[A0] at hm hw;have hR:Au (sg neg n)=if oG (sg neg n)=true then .tup [.agg [.bool (neg && decide (0<n)),.il 1 (bM (dg 4294967296 n))],.int .i64 0] else .tup [.agg [.bool false,.il 1 []],.int .i64 4]:=by rw[←A0,←SV];rfl
 rw[hR] at hr ⊢;refine aG bB func54 rfl ?_;refine Rr ?_;refine hm.go ?_ (.cons (tB _) (.cons (tU _) .nil)) hw;refine Rr ?_;rw[a9];refine aD (fun hb=>?_) (fun hb=>?_)
 ·have hb:¬oG (sg neg n)=true:=by
   rw[hf];simp at hb;simp;omega
  rw[T5 hb] at hr ⊢;refine Rr ?_;exact gL (r':=.tup [.agg [.bool false,.il 1 []],.int .i64 4]) (.tup' (.cons (.agg' (.cons (.same _ (tB _)) (.cons (.nil 1) .nil))) (.s .nil))) ⟨rfl,rfl,rfl⟩
 ·have hb:oG (sg neg n)=true:=by
   rw[hf];simp at hb;simp;omega
  rw[T7 hb] at hr ⊢;refine Rt ?_;exact aA hr ⟨rfl,rfl,rfl⟩
set_option maxRecDepth 100000
set_option maxHeartbeats 16000000
theorem iW(x:Int):fW x = .agg [.bool (decide (x<0)),.il 1 (bM (dg 4294967296 x.natAbs))]:=rfl
theorem Lw(x y:Int):sg (decide (x<0) != decide (y<0)) (x.natAbs*y.natAbs)=x*y:=by
 have ex:=De x;have ey:=De y
 conv=>rhs;rw[←ex,←ey]
 generalize decide (x<0)=a;generalize decide (y<0)=b;cases a<;>cases b<;>simp[sg,W4,Wn]
theorem FN(b:Bool)(l:List Nat):NN (.agg [.bool b,.il 1 (bM l)]):=.agg' (.cons (tB _) (.cons (tU _) .nil))
set_option maxRecDepth 100000
set_option maxHeartbeats 16000000
theorem yD(z:Int):∃(b:Bool) (l:List Nat) (e:Int),Au z = .tup [.agg [.bool b,.il 1 (bM l)],.int .i64 e]:=by
 unfold Au;split
 ·exact⟨_,_,_,rfl⟩
 ·exact⟨_,_,_,rfl⟩
theorem Px(x y:Int)(hx:(dg 4294967296 x.natAbs).length<=1000000)(hy:(dg 4294967296 y.natAbs).length<=1000000):aZ prog [] 18 [fW x,fW y] (Au (x*y)):=by
 have hm:=TH x.natAbs y.natAbs hx hy;have hr:=Io (decide (x<0) != decide (y<0)) (x.natAbs*y.natAbs) (by have:=BI (B:=4294967296) (by decide) x.natAbs y.natAbs;omega);rw[Lw] at hr;obtain⟨b,l,e,he⟩:=yD (x*y);rw[he] at hr ⊢;rw[iW x,iW y];generalize dg 4294967296 (x.natAbs*y.natAbs)=ab at *;generalize dg 4294967296 x.natAbs=a1 at *;generalize dg 4294967296 y.natAbs=a2 at *;generalize decide (x<0)=b1 at *;generalize decide (y<0)=b2 at *;refine aG bB func18 rfl ?_;refine Rt ?_;refine hm.go ?_ (.cons (tU _) (.cons (tU _) .nil)) (tU _);refine Rt ?_;refine hr.go ?_ (.cons (tB _) (.cons (tU _) .nil)) (.tup' (.cons (FN _ _) (.cons nn .nil)));refine Rt ?_;exact aA (.tup' (.cons (FN _ _) (.cons nn .nil))) ⟨rfl,rfl,rfl⟩
theorem O5{x y:Int}(h:decide (x<0)=decide (y<0)):sg (decide (x<0)) (x.natAbs+y.natAbs)=x+y:=by
 unfold sg;by_cases h1:x<0
 ·have h2:y<0:=by rw[UD h1] at h;exact Un h.symm
  simp[h1];omega
 ·have h2:¬y<0:=by rw[UO h1] at h;exact VX h.symm
  simp[h1];omega
theorem JX{x y:Int}(h:decide (x<0)≠decide (y<0))(hge:y.natAbs<=x.natAbs):sg (decide (x<0)) (x.natAbs-y.natAbs)=x+y:=by
 unfold sg;by_cases h1:x<0
 ·have h2:¬y<0:=fun h2=>h (by rw[UD h1,UD h2])
  simp[h1];omega
 ·have h2:y<0:=by
   rcases Wv y 0 with h2|h2
   ·exact h2
   ·exact absurd (by rw[UO h1,UO (by omega)]) h
  simp[h1];omega
theorem RO(x y:Int)(hx:(dg 4294967296 x.natAbs).length<=1000000)(hy:(dg 4294967296 y.natAbs).length<=1000000):aZ prog [] 53 [fW x,fW y] (fW (x+y)):=by
 have hB:(2:Nat)<=4294967296:=by decide
 have hc:=Q4 x.natAbs y.natAbs (by omega);have ha:=TT x.natAbs y.natAbs hx hy;have hma:=E0 (decide (x<0)) (x.natAbs+y.natAbs) (by have:=E7 hB x.natAbs y.natAbs;omega);have hS1:=fun h=>Sj x.natAbs y.natAbs h hx
 have hS2:=fun h=>Sj y.natAbs x.natAbs h hy
 have hm1:=E0 (decide (x<0)) (x.natAbs-y.natAbs) (by have:=yG hB x.natAbs y.natAbs;omega);have hm2:=E0 (decide (y<0)) (y.natAbs-x.natAbs) (by have:=yG hB y.natAbs x.natAbs;omega);have q1:=fun h=>O5 (x:=x) (y:=y) h
 have q2:=fun h h2=>JX (x:=x) (y:=y) h h2
 have q3:=fun h h2=>JX (x:=y) (y:=x) h h2
 rw[Int.add_comm y x] at q3;have hcc:Go.Ax.f0 (x.natAbs:Int) (y.natAbs:Int)≥0↔y.natAbs<=x.natAbs:=by unfold Go.Ax.f0;split<;>(try split)<;>omega
 generalize Go.Ax.f0 (x.natAbs:Int) (y.natAbs:Int)=cj at *;rw[iW (x+y)];generalize hz1:decide (x+y<0)=rb at *;generalize hz2:dg 4294967296 (x+y).natAbs=rl at *;have hE:∀z,z=x+y->fW z = .agg [.bool rb,.il 1 (bM rl)]:=fun z hz=>by rw[hz,iW,hz1,hz2]
 rw[iW x,iW y];generalize dg 4294967296 (x.natAbs+y.natAbs)=as_ at *;generalize dg 4294967296 (x.natAbs-y.natAbs)=ad1 at *;generalize dg 4294967296 (y.natAbs-x.natAbs)=ad2 at *;generalize dg 4294967296 x.natAbs=a1 at *;generalize dg 4294967296 y.natAbs=a2 at *;generalize decide (x<0)=b1 at *;generalize decide (y<0)=b2 at *;refine aG bB func53 rfl ?_;refine Rr ?_;by_cases hb:b1=b2
 ·rw[hE _ (q1 hb)] at hma;rw[show (b1 == b2)=true by rw[hb];simp];refine Rt ?_;refine ha.go ?_ (.cons (tU _) (.cons (tU _) .nil)) (tU _);refine Rt ?_;refine hma.go ?_ (.cons (tB _) (.cons (tU _) .nil)) (FN _ _);refine Rt ?_;exact aA (FN _ _) ⟨rfl,rfl,rfl⟩
 ·rw[show (b1 == b2)=false by simpa using hb];refine Rr ?_;refine hc.go ?_ (.cons (tU _) (.cons (tU _) .nil)) nn;refine Rr ?_;refine aD (fun hcb=>?_) (fun hcb=>?_)
  ·have hge:=hcc.1 (by simpa using hcb);have hs:=hS1 hge;rw[hE _ (q2 hb hge)] at hm1;refine Rt ?_;refine hs.go ?_ (.cons (tU _) (.cons (tU _) .nil)) (tU _);refine Rt ?_;refine hm1.go ?_ (.cons (tB _) (.cons (tU _) .nil)) (FN _ _);refine Rt ?_;exact aA (FN _ _) ⟨rfl,rfl,rfl⟩
  ·have hlt:x.natAbs<=y.natAbs:=by
    have:¬cj≥0:=by simpa using hcb
    have:=fun h=>this (hcc.2 h)
    omega
   have hs:=hS2 hlt;rw[hE _ (q3 (fun h=>hb h.symm) hlt)] at hm2;refine Rt ?_;refine hs.go ?_ (.cons (tU _) (.cons (tU _) .nil)) (tU _);refine Rt ?_;refine hm2.go ?_ (.cons (tB _) (.cons (tU _) .nil)) (FN _ _);refine Rt ?_;exact aA (FN _ _) ⟨rfl,rfl,rfl⟩
set_option maxRecDepth 100000
set_option maxHeartbeats 16000000
theorem Pj(x y:Int)(hx:(dg 4294967296 x.natAbs).length<=900000)(hy:(dg 4294967296 y.natAbs).length<=900000):aZ prog [] 17 [fW x,fW y] (Au (x+y)):=by
 have hB:(2:Nat)<=4294967296:=by decide
 have ht:=RO x y (by omega) (by omega);have hl:(dg 4294967296 (x+y).natAbs).length<=1000000:=by
  have h1:=Int.natAbs_add_le x y;have h2:=dJ hB h1;have h3:=E7 hB x.natAbs y.natAbs;omega
 have hr:=Io (decide (x+y<0)) (x+y).natAbs (by omega);rw[De] at hr;obtain⟨b,l,e,he⟩:=yD (x+y);rw[he] at hr ⊢;rw[iW (x+y)] at ht;rw[iW x,iW y] at *;generalize dg 4294967296 (x+y).natAbs=ab at *;generalize dg 4294967296 x.natAbs=a1 at *;generalize dg 4294967296 y.natAbs=a2 at *;generalize decide (x+y<0)=bb at *;generalize decide (x<0)=b1 at *;generalize decide (y<0)=b2 at *;refine aG bB func17 rfl ?_;refine Rr ?_;refine ht.go ?_ (.cons (FN _ _) (.cons (FN _ _) .nil)) (FN _ _);refine Rt ?_;refine hr.go ?_ (.cons (tB _) (.cons (tU _) .nil)) (.tup' (.cons (FN _ _) (.cons nn .nil)));refine Rt ?_;exact aA (.tup' (.cons (FN _ _) (.cons nn .nil))) ⟨rfl,rfl,rfl⟩
theorem Nx{x y:Int}:Go.Ax.f0 x y=if decide (x<0)=true/\decide (y<0)=true then Go.Ax.f0 (y.natAbs:Int) (x.natAbs:Int) else if decide (x<0)=true then -1 else if decide (y<0)=true then 1 else Go.Ax.f0 (x.natAbs:Int) (y.natAbs:Int):=by
 by_cases h1:x<0<;>by_cases h2:y<0
 ·rw[T7 ⟨UD h1,UD h2⟩];unfold Go.Ax.f0;split<;>split<;>(try split)<;>(try split)<;>omega
 ·rw[T5 (by rw[UO h2];simp),T7 (UD h1)];unfold Go.Ax.f0;rw[T7 (by omega)]
 ·rw[T5 (by rw[UO h1];simp),T5 (by rw[UO h1];simp),T7 (UD h2)];unfold Go.Ax.f0;rw[T5 (by omega),T7 (by omega)]
 ·rw[T5 (by rw[UO h1];simp),T5 (by rw[UO h1];simp),T5 (by rw[UO h2];simp)];unfold Go.Ax.f0;split<;>split<;>(try split)<;>(try split)<;>omega
theorem NK(x y:Int)(hx:(dg 4294967296 x.natAbs).length<=1000000)(hy:(dg 4294967296 y.natAbs).length<=1000000):aZ prog [] 20 [fW x,fW y] (.int .i64 (Go.Ax.f0 x y)):=by
 have h1:=Q4 x.natAbs y.natAbs (by omega);have h2:=Q4 y.natAbs x.natAbs (by omega);rw[Nx (x:=x) (y:=y),iW x,iW y];generalize Go.Ax.f0 (x.natAbs:Int) (y.natAbs:Int)=c1 at *;generalize Go.Ax.f0 (y.natAbs:Int) (x.natAbs:Int)=c2 at *;generalize dg 4294967296 x.natAbs=a1 at *;generalize dg 4294967296 y.natAbs=a2 at *;generalize decide (x<0)=b1 at *;generalize decide (y<0)=b2 at *;refine aG bB func20 rfl ?_;cases b1<;>cases b2
 ·refine Rr ?_;refine h1.go ?_ (.cons (tU _) (.cons (tU _) .nil)) nn;refine Rr ?_;exact aA nn ⟨rfl,rfl,rfl⟩
 ·refine Rr ?_;exact aA nn ⟨rfl,rfl,rfl⟩
 ·refine Rr ?_;exact aA nn ⟨rfl,rfl,rfl⟩
 ·refine Rr ?_;refine h2.go ?_ (.cons (tU _) (.cons (tU _) .nil)) nn;refine Rr ?_;exact aA nn ⟨rfl,rfl,rfl⟩
set_option maxRecDepth 100000
set_option maxHeartbeats 16000000
theorem Ch{x y q r:Int}(hy:y≠0)(h:r+y*q=x)(h0:0<=r)(h1:r<y.natAbs):x/y=q/\x%y=r:=by
 rcases Wv y 0 with hn|hn
 ·obtain⟨b,rfl⟩:∃b,y = -b:=⟨-y,by omega⟩
  have:=(Int.ediv_emod_unique (a:=x) (b:=b) (r:=r) (q:=-q) (by omega)).2 ⟨by rw[Wn,←W4];exact h,h0,by omega⟩;rw[Int.ediv_neg,Int.emod_neg,this.1,this.2];exact⟨by omega,rfl⟩
 ·exact(Int.ediv_emod_unique (by omega)).2 ⟨h,h0,by omega⟩
theorem K0{x y:Int}(hy:y≠0):(decide (x<0)=true/\0<x.natAbs%y.natAbs->x/y=sg (decide (x<0) != decide (y<0)) (x.natAbs/y.natAbs+1)/\x%y=((y.natAbs-x.natAbs%y.natAbs:Nat):Int)) /\
  (¬(decide (x<0)=true/\0<x.natAbs%y.natAbs)->x/y=sg (decide (x<0) != decide (y<0)) (x.natAbs/y.natAbs)/\x%y=((x.natAbs%y.natAbs:Nat):Int)):=by
 have hyp:0<y.natAbs:=XF.2 hy;have hd:=Wo x.natAbs y.natAbs;have hm:=VY x.natAbs hyp;have hd2:(y.natAbs:Int)*((x.natAbs/y.natAbs:Nat):Int)+((x.natAbs%y.natAbs:Nat):Int)=(x.natAbs:Int):=by rw[←Vf,←VG,hd]
 generalize x.natAbs/y.natAbs=Q at *;generalize x.natAbs%y.natAbs=R at *;constructor
 ·rintro⟨h1,h2⟩;have h1:=Un h1;refine Ch hy ?_ (by omega) (by omega);rw[UD h1];rcases Wv y 0 with hn|hn
  ·rw[UD hn];rw[show (y.natAbs:Int) = -y by omega,W4] at hd2;simp only[sg,bne_self_eq_false,VI,if_false,VG,Int.mul_add,Int.natCast_one,Int.mul_one];generalize y*(Q:Int)=P at *;omega
  ·rw[UO (by omega)];rw[show (y.natAbs:Int)=y by omega] at hd2;simp only[sg,Bool.true_bne,Bool.not_false,if_true,VG,Wn,Int.mul_add,Int.natCast_one,Int.mul_one];generalize y*(Q:Int)=P at *;omega
 ·intro h;refine Ch hy ?_ (by omega) (by omega);by_cases h1:x<0
  ·have hR:R=0:=by
    rcases UK R with e|e
    ·exact e
    ·exact absurd ⟨UD h1,e⟩ h
   subst hR;rw[UD h1];rcases Wv y 0 with hn|hn
   ·rw[UD hn];rw[show (y.natAbs:Int) = -y by omega,W4] at hd2;simp only[sg,bne_self_eq_false,VI,if_false];generalize y*(Q:Int)=P at *;omega
   ·rw[UO (by omega)];rw[show (y.natAbs:Int)=y by omega] at hd2;simp only[sg,Bool.true_bne,Bool.not_false,if_true,Wn];generalize y*(Q:Int)=P at *;omega
  ·rw[UO h1];rcases Wv y 0 with hn|hn
   ·rw[UD hn];rw[show (y.natAbs:Int) = -y by omega,W4] at hd2;simp only[sg,Bool.false_bne,if_true,Wn];generalize y*(Q:Int)=P at *;omega
   ·rw[UO (by omega)];rw[show (y.natAbs:Int)=y by omega] at hd2;simp only[sg,bne_self_eq_false,VI,if_false];generalize y*(Q:Int)=P at *;omega
set_option maxRecDepth 100000
set_option maxHeartbeats 16000000
set_option maxRecDepth 100000
set_option maxHeartbeats 16000000
theorem RB(neg:Bool)(l:List Nat)(hl:l.length<=4294967296):aZ prog [] 103 [.bool neg,.il 1 (bM l)] (.agg [.bool (neg && decide (0<(eG l).length)),.il 1 (bM (eG l))]):=by
 have ht:=Br l hl;generalize eG l=z at *;refine aG bB func103 rfl ?_;refine Rr ?_;refine ht.go ?_ (.cons (tU _) .nil) (tU _);have hlz:decide (((bM z).length:Int)>0)=decide (0<z.length):=by
  rw[a9,Va];omega
 cases neg with
 | false=>
  refine Rt ?_;exact aA (FN _ _) ⟨rfl,rfl,rfl⟩
 | true=>
  refine Rr ?_;rw[hlz];refine Rs ?_;exact aA (FN _ _) ⟨rfl,rfl,rfl⟩
theorem M8(neg:Bool)(m:Nat)(hm:m<18446744073709551616):eG [m%4294967296,m/4294967296]=dg 4294967296 m/\AV.agg [.bool (neg && decide (0<(eG [m%4294967296,m/4294967296]).length)),.il 1 (bM (eG [m%4294967296,m/4294967296]))]=fW (sg neg m):=by
 have e:eG [m%4294967296,m/4294967296]=dg 4294967296 m:=by
  rw[kQ (B:=4294967296) (by decide) _ (by intro d hd;simp at hd;omega)];congr 1;simp[vl];omega
 refine⟨e, ?_⟩;rw[e,A0,kF (by decide)]
theorem Lm(n:Int)(hn:i64 n):aZ prog [] 75 [.int .i64 n] (fW n):=by
 have hn':=hn;obtain⟨hn1,hn2⟩:=hn';have hm:=RB (decide (n<0)) [n.natAbs%4294967296,n.natAbs/4294967296] (by simp);have h2:=(M8 (decide (n<0)) n.natAbs (by omega)).2;rw[h2,De] at hm;rw[iW n] at hm ⊢;generalize dg 4294967296 n.natAbs=l at *;have hM:n.natAbs<18446744073709551616:=by omega
 have x1:IntKind.u32.wrap (n.natAbs:Int)=((n.natAbs%4294967296:Nat):Int):=SP _;have x2:IntKind.u32.wrap ((n.natAbs:Int).fdiv (2 ^ 32))=((n.natAbs/4294967296:Nat):Int):=by rw[Go.Ax.LT,Oy (by omega)]
 have step:∀(X:Int),X=(n.natAbs:Int)->bM [n.natAbs%4294967296,n.natAbs/4294967296]=[AV.int IntKind.u32 (IntKind.u32.wrap X),AV.int IntKind.u32 (IntKind.u32.wrap (X.fdiv (2 ^ 32)))]:=fun X hX=>by rw[hX,x1,x2];rfl
 refine aG bB func75 rfl ?_;refine Rr ?_;refine aD (fun hb=>?_) (fun hb=>?_)
 ·rw[hb] at hm ⊢;have hs:=step (IntKind.u64.wrap (0-IntKind.u64.wrap n)) (by have:=Un hb;rw[dH,dH];omega);refine Rr ?_;rw[hb];refine aE.pre bB [(0,0)] (mem':=[(0,.row 33 2 [.agg [.bool false,.nsl]])]) rfl ⟨aK 0 (.cons (.agg' (.cons (tB _) (.cons nn .nil))) .nil),trivial⟩
   (.cons (.same _ (tB _)) (.cons (.fz' (id:=1) (off:=0) (len:=2) (ys:=bM [n.natAbs%4294967296,n.natAbs/4294967296]) rfl rfl (UC 2) hs.symm (aV _)) .nil)) ?_
  refine hm.go ?_ (.cons (tB _) (.cons (tU _) .nil)) (FN _ _);refine Rt ?_;exact aA (FN _ _) ⟨rfl,rfl,rfl⟩
 ·rw[hb] at hm ⊢;have hs:=step (IntKind.u64.wrap n) (by have:=VX hb;rw[dH];omega);generalize IntKind.u64.wrap n=X at *;refine Rr ?_;rw[hb];refine aE.pre bB [(0,0)] (mem':=[(0,.row 33 2 [.agg [.bool false,.nsl]])]) rfl ⟨aK 0 (.cons (.agg' (.cons (tB _) (.cons nn .nil))) .nil),trivial⟩
   (.cons (.same _ (tB _)) (.cons (.fz' (id:=1) (off:=0) (len:=2) (ys:=bM [n.natAbs%4294967296,n.natAbs/4294967296]) rfl rfl (UC 2) hs.symm (aV _)) .nil)) ?_
  refine hm.go ?_ (.cons (tB _) (.cons (tU _) .nil)) (FN _ _);refine Rt ?_;exact aA (FN _ _) ⟨rfl,rfl,rfl⟩
end Go.Proofs.YtidjhgajglebnaaGreatDoor
namespace Go.Ax
open Go
theorem PN(k m:Nat)(e:40*k=m):qZ k=2 ^ m:=by subst e;rfl
theorem Mj{n k m:Nat}(h:n<=qZ k)(e:40*k=m)(hm:m<16384):oG (n:Int)=true:=by
 rw[PN k m e] at h;exact Nj (n:=m) (by rw[Uz];exact h) hm
end Go.Ax
