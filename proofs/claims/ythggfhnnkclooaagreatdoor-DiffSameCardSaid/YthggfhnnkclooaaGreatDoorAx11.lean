/- A part of the proof. -/
import Derived.Test.YthggfhnnkclooaaGreatDoorAx10
set_option linter.unusedSectionVars false
set_option linter.unusedVariables false
set_option linter.unusedSimpArgs false
set_option maxRecDepth 1000000
set_option maxHeartbeats 16000000
namespace Go.Proofs.YthggfhnnkclooaaGreatDoor
open Go Go.Ax Go.Proofs Tryz
theorem NS(l:List Nat)(k:Nat):(bB l).take k=bB (l.take k):=by unfold bB;rw[List.map_take]
theorem lM{i n:Nat}(h:i<n):Nat.blt ((i:Nat):Int).toNat n=true:=Y3 (by simp;omega)
theorem zY{l:List Nat}{i d:Nat}(h:l[i]? = some d):(bB l)[((i:Nat):Int).toNat]? = some (.int .u32 (d:Int)):=by rw[Yy,IK,h];rfl
theorem mN{l:List Nat}{i d:Nat}(h:l[i]? = some d):(bB l)[0+((i:Nat):Int).toNat]? = some (.int .u32 (d:Int)):=by rw[ZP];exact zY h
theorem Oa{j n:Nat}(h:j<=n):(Nat.ble 0 ((j:Nat):Int).toNat && (Nat.ble ((j:Nat):Int).toNat n && Nat.ble n n))=true:=by
 rw[Yy,Y3 (aAp _),Y3 h,Y3 (Y8 _)];rfl
theorem Ad(l:List Nat)(hl:l.length<=4294967296):aX prog [] 86 [.il 1 (bB l)] (.il 1 (bB (fB l))):=by
 refine aG bJ func86 rfl ?_;refine Z ?_;refine bI.at bJ (λk:Nat=>k<=l.length/\fB (l.take k)=fB l) (λk=>⟨[(0,.il 1 (bB (l.take k)))],[],0,21⟩) (λk=>k) l.length [] ⟨Y8 _,by rw[ZJ]⟩
  (bX ⟨⟨_,rfl,.eq (.il' (aM _)) (by rw[ZJ])⟩,trivial⟩) ?_
 rintro k ⟨hk,ht⟩;refine Z ?_;have hlk:(bB (l.take k)).length=k:=by rw[aU,ZO];omega
 rw[hlk];refine aL (λhb=>?_) (λhb=>?_)
 .rw[hb];have hk0:0<k:=su hb
  obtain⟨j,rfl⟩:∃j,k=j+1:=⟨k-1,om⟩
  obtain⟨d,hd⟩:∃d,l[j]? = some d:=⟨_,Yw om⟩
  have hw:IntKind.i64.wrap (((j+1:Nat):Int)-1)=(j:Int):=by rw[bS oq];omega
  have hg:(l.take (j+1))[j]? = some d:=by rw[Za,Y4 om];exact hd
  have e1:=zY hg;have hts:fB (l.take (j+1))=if d=0 then fB (l.take j) else l.take (j+1):=by
   have e:=wQ hd;rw[e,yK]
  refine Z ?_;rw[hlk,hw];refine aC e1 ?_;refine Rt ?_;refine aL (λhc=>?_) (λhc=>?_)
  .have hd0:d=0:=su hc
   refine Z ?_;rw[hlk,hw];refine aO (Oa om) ?_;refine Z ?_;exact .mk j [] ⟨om,by rw[Y4 hd0] at hts;rw[<-hts];exact ht⟩ (bX ⟨⟨_,rfl,.eq (.il' (aM _)) (by simp[bB,<-List.map_take,aBe])⟩,trivial⟩) om
  .refine Z ?_;have hd0:d≠0:=su hc
   rw[Yz hd0] at hts;rw[<-ht,hts];exact aA (.il' (aM _)) ⟨rfl,rfl,rfl⟩
 .try rw[hb]
  have hk0:k=0:=by simp at hb;omega
  subst hk0;refine Z ?_;rw[<-ht];exact aA (.il' (aM _)) ⟨rfl,rfl,rfl⟩
theorem Tl(x y:Nat)(hx:(dg 4294967296 x).length<=4294967296):aX prog [] 116 [.il 1 (bB (dg 4294967296 x)),.il 1 (bB (dg 4294967296 y))] (.int .i64 (dY x y)):=by
 refine aG bJ func116 rfl ?_;refine Z ?_;rw[aU,aU];have hB:(2:Nat)<=4294967296:=by decide
 have hla:=l6 hB x;have hlb:=l6 hB y;have hva:=mO hB x;have hvb:=mO hB y;have hL:(dg 4294967296 x).length<(dg 4294967296 y).length->dY (x:Int) y = -1:=λh=>by have:=E7 hB h;unfold dY;rw[Y4 om]
 have hG:(dg 4294967296 y).length<(dg 4294967296 x).length->dY (x:Int) y=1:=λh=>by have:=E7 hB h;unfold dY;rw[Yz om,Y4 om]
 generalize dg 4294967296 x=a at *;generalize dg 4294967296 y=b at *;refine aL (λhb=>?_) (λhb=>?_)
 .have hne:a.length≠b.length:=λe=>by rw[e] at hb;simp at hb
  refine Z ?_;rw[aU,aU];refine aL (λhc=>?_) (λhc=>?_)
  .refine Z ?_;rw[hL (su hc)];exact aA nn ⟨rfl,rfl,rfl⟩
  .refine Z ?_;rw[hG (by simp at hc;omega)];exact aA nn ⟨rfl,rfl,rfl⟩
 .have heq:a.length=b.length:=by simp at hb;omega
  refine Z ?_;refine bI.at bJ (λm:Nat=>m<=a.length/\a.drop m=b.drop m) (λm=>⟨[(0,.il 1 (bB a)),(1,.il 1 (bB b)),(5,.int .i64 ((m:Int)-1))],[],0,41⟩) (λm=>m) a.length [] ⟨Y8 _,by rw[Z8,heq,Z8]⟩
   (bX ⟨aP (.il' (aM _)),aP (.il' (aM _)),⟨_,rfl,.w64 (by rw[aU]) oq⟩,trivial⟩) ?_
  rintro m ⟨hm,hd⟩;refine Z ?_;refine aL (λhc=>?_) (λhc=>?_)
  .have hm1:0<m:=by simp at hc;omega
   obtain⟨i,rfl⟩:∃i,m=i+1:=⟨m-1,om⟩
   rw[show (((i+1:Nat):Int)-1)=(i:Int) by omega];obtain⟨u,hu⟩:∃u,a[i]? = some u:=⟨_,Yw om⟩
   obtain⟨v,hv⟩:∃v,b[i]? = some v:=⟨_,Yw om⟩
   have e1:=zY hu;have e2:=zY hv;refine Z ?_;repeat((first|refine aC e1 ?_|refine aC e2 ?_|refine aY ?_);refine Z ?_)
   refine aL (λhc=>?_) (λhc=>?_)
   .have huv:u<v:=by simp at hc;omega
    have:=zM hla hB hd hu hv huv heq;refine Z ?_;rw[show dY (x:Int) y = -1 by unfold dY;rw[Y4 om]];exact aA nn ⟨rfl,rfl,rfl⟩
   .refine Z ?_;repeat((first|refine aC e1 ?_|refine aC e2 ?_|refine aY ?_);refine Z ?_)
    refine aL (λhc2=>?_) (λhc2=>?_)
    .have huv:v<u:=by simp at hc2;omega
     have:=zM hlb hB hd.symm hv hu huv heq.symm;refine Z ?_;rw[show dY (x:Int) y=1 by unfold dY;rw[Yz om,Y4 om]];exact aA nn ⟨rfl,rfl,rfl⟩
    .have huv:u=v:=by simp at hc hc2;omega
     refine Z ?_;exact .mk i [] ⟨om,by
       obtain⟨h1,h2⟩:=Y0.1 hu;obtain⟨h3,h4⟩:=Y0.1 hv;rw[List.drop_eq_getElem_cons h1,List.drop_eq_getElem_cons h3,h2,h4,huv,hd]⟩
      (bX ⟨aP (.il' (aM _)),aP (.il' (aM _)),⟨_,rfl,.w64 rfl oq⟩,trivial⟩) om
  .have hm0:m=0:=by simp at hc;omega
   subst hm0;simp only[ZU] at hd;subst hd;refine Z ?_;rw[show dY (x:Int) y=0 by rw[<-hva,hvb];simp[dY]];exact aA nn ⟨rfl,rfl,rfl⟩
theorem hT:(2:Nat)<=10000:=by decide
theorem X8(b:Bool):NN (.bool b):=.bool b
def UT(c:Nat):aQ:=[(0,.row 209 1 [.int .u64 (c:Int)])]
theorem I5(x y c:Nat)(hx:x<4294967296)(hy:y<4294967296)(hc:c<4294967296):aJ prog [] 183 [.int .u32 x,.int .u32 y,.ptr 0 0 0] (UT c) 1
  λr m n=>r = .int .u32 (((c+(x+y))%4294967296:Nat):Int)/\m=UT ((c+(x+y))/4294967296)/\n=1:=by
 have e1:IntKind.u64.wrap (x:Int)=(x:Int):=iD om;have e2:IntKind.u64.wrap (y:Int)=(y:Int):=iD om;have e3:IntKind.u64.wrap ((x:Int)+(y:Int))=((x+y:Nat):Int):=by rw[<-Int.natCast_add];exact iD om
 have e4:IntKind.u64.wrap ((c:Int)+((x+y:Nat):Int))=((c+(x+y):Nat):Int):=by rw[<-Int.natCast_add];exact iD om
 refine aG bJ func183 rfl ?_;refine Z ?_;rw[e1,e2,e3,e4];refine Z ?_;exact bM (n':=1) (m':=UT ((c+(x+y))/4294967296)) [(0,0)] rfl ⟨⟨0,_,rfl,rfl,.cons (.one rfl rfl (.int Bh)) .nil⟩,trivial⟩ (.int (Uy _)) ⟨rfl,rfl,rfl⟩
theorem Bv{a b c:Bool}{n bytes:Nat}(ha:a=true)(hb:b=true)(hc:c=true)(h:n<=4294967296)(hby:Nat.ble bytes 4096=true) :
  (a && (b && (c && (decide (0<=(n:Int)) && (decide ((n:Int)<=n) && (decide ((bytes:Int)*n<=281474976710656) && decide ((n:Int)<=9223372036854775807)))))))=true:=by
 have hby:=Y5 hby;have h3:bytes*n<=4096*4294967296:=Z5 hby h;have h4:((bytes:Nat):Int)*(n:Int)=((bytes*n:Nat):Int):=sq
 rw[ha,hb,hc,h4,Y7 om,Y7 om,Y7 om,Y7 om];rfl
theorem kP(k:IntKind)(n:Int):jU [.int k n]:=λa ha=>by
 rw[aAY.1 ha];exact .int _ _
theorem VO{s:List Nat}{n:Nat}(h:s.length<n):(bB (eZ s n))[0+((s.length:Nat):Int).toNat]? = some (.int .u32 0):=mN (OO h)
theorem UD{s:List Nat}{n d:Nat}(h:s.length<n):(bB (eZ s n)).set (0+((s.length:Nat):Int).toNat) (.int .u32 (d:Int))=bB (eZ (s++[d]) n):=by
 rw[Yy,ZP,iA,QJ h]
theorem gO{P:Nat->Prop}{l:List Nat}{d:Nat}(h:∀x∈l,P x)(hd:P d):∀x∈l++[d],P x:=λx hx=>by
 rcases ZI.1 hx with hx|hx
 .exact h x hx
 .rw[aAY.1 hx];exact hd
theorem WV(X Y:List Nat)(hX:∀d∈X,d<4294967296)(hY:∀d∈Y,d<4294967296)(hx:X.length<=1000000)(hy:Y.length<=1000000):aX prog [] 113 [.il 1 (bB X),.il 1 (bB Y)] (.il 1 (bB (dg 4294967296 (vl 4294967296 X+vl 4294967296 Y)))):=by
 have hB:(2:Nat)<=4294967296:=by decide
 refine aG bJ func113 rfl ?_;refine Z ?_;rw[aU,aU];rcases ZG X.length Y.length with hxy|hxy
 case' inl=>
  rw[Y7 om];obtain⟨S,hS⟩:∃S,S=vl 4294967296 X+vl 4294967296 Y:=⟨_,rfl⟩
  rw[<-hS];have hla:=hY;have hlb:=hX;have hsum:vl 4294967296 Y+vl 4294967296 X=S:=om;generalize Y=a at *;generalize X=b at *;have hx:=hy
 case' inr=>
  rw[ZN om];obtain⟨S,hS⟩:∃S,S=vl 4294967296 X+vl 4294967296 Y:=⟨_,rfl⟩
  rw[<-hS];have hla:=hX;have hlb:=hY;have hsum:vl 4294967296 X+vl 4294967296 Y=S:=om;generalize X=a at *;generalize Y=b at *
 all_goals
  refine Z ?_;have hw1:IntKind.i64.wrap (((bB a).length:Int)+1)=((a.length+1:Nat):Int):=by rw[aU,bS oq];omega
  rw[hw1];refine aO (Bv rfl rfl rfl om rfl) ?_;refine Rt ?_;refine bI.at bJ (λp:List Nat × Nat=>p.1.length<=b.length/\(∀d∈p.1,d<4294967296)/\p.2<=1/\vl 4294967296 p.1+4294967296 ^ p.1.length*p.2=vl 4294967296 (a.take p.1.length)+vl 4294967296 (b.take p.1.length))
   (λp=>⟨[(0,.il 1 (bB a)),(1,.il 1 (bB b)),(5,.sl 0 0 (a.length+1)),(6,.ptr 1 0 0),(7,.fn (.func 183) [] [.ptr 1 0 0]),(23,.int .i64 b.length),(24,.int .i64 p.1.length)],[(0,.row 157 1 (bB (eZ p.1 (a.length+1)))),(1,.row 209 1 [.int .u64 (p.2:Int)])],2,66⟩)
   (λp=>b.length-p.1.length) ([],0) [(0,0),(1,1)] ⟨sq,sq,sq,by simp[vl]⟩
   (aK _ rfl ⟨⟨0,_,rfl,rfl,.eq (aM _) (by simp[bB,eZ])⟩,aI 1 (kP _ _),trivial⟩
    ⟨aP (.il' (aM _)),aP (.il' (aM _)),⟨_,rfl,.slE rfl sq⟩,aN,⟨_,rfl,(.fn _ _ _ _ _ rfl rfl sq (g6.cons (.ptr 1 1 0 0 rfl) .nil).2)⟩,⟨_,rfl,.int (by rw[aU])⟩,aF,trivial⟩) ?_
  rintro⟨s,c⟩ ⟨h1,h2,h3,h4⟩;simp only at h1 h2 h3 h4 |-;refine Z ?_;refine aL (λhb=>?_) (λhb=>?_)
  .have hlt:s.length<b.length:=su hb
   obtain⟨u,hu⟩:∃u,a[s.length]? = some u:=⟨_,Yw om⟩
   obtain⟨v,hv⟩:∃v,b[s.length]? = some v:=⟨_,Yw om⟩
   have hul:=hla _ (Y2 hu);have hvl:=hlb _ (Y2 hv);have g1:=zY hu;have g2:=zY hv;have g3:=VO (s:=s) (n:=a.length+1) om;have bi:=lM (i:=s.length) (n:=a.length+1) om;refine Z ?_;repeat((first|refine aC g1 ?_|refine aC g2 ?_|refine aY ?_);refine Z ?_)
   refine aJ.useN bJ [(1,0)] (I5 u v c hul hvl om) rfl (.s (.s (.cons (.ptr 1 0 0 0 rfl) .nil))) ⟨aI 1 (kP _ _),trivial⟩ rfl ?_;rintro r' m' n' ⟨rfl,rfl,rfl⟩;refine⟨[(0,1)],_,[(1,.row 209 1 [.int .u64 (((c+(u+v))/4294967296:Nat):Int)])],16,.same _ nn,⟨aI 0 (kP _ _),trivial⟩,rfl, ?_⟩;refine Rt ?_;repeat((first|refine aO bi ?_|refine aC g3 ?_);refine Rt ?_)
   have hstep:=z8 (B:=4294967296) (by decide) (s:=s) (x:=u) (y:=v) rfl h4;have hdv:(c+(u+v))/4294967296<=1:=om;have hmd:(c+(u+v))%4294967296<4294967296:=Zx _ (by decide);exact .mk (s++[(c+(u+v))%4294967296],(c+(u+v))/4294967296) [(0,0),(1,1)] ⟨by simp;omega,gO h2 hmd,hdv,by simp only[ZA,ZZ];rw[jE hu,jE hv];exact hstep⟩
    (aK _ rfl ⟨⟨0,_,rfl,rfl,.eq (aM _) (UD om)⟩,aI 1 (kP _ _),trivial⟩
     ⟨aP (.il' (aM _)),aP (.il' (aM _)),⟨_,rfl,.slE rfl rfl⟩,aN,⟨_,rfl,(.fn _ _ _ _ _ rfl rfl sq (g6.cons (.ptr 1 1 0 0 rfl) .nil).2)⟩,aF,⟨_,rfl,.w64 sq ⟨by simp;omega,by simp;omega⟩⟩,trivial⟩) (by simp;omega)
  .skip;have hlt:s.length=b.length:=by simp at hb;omega
   rw[hlt,ZJ] at h4;refine Z ?_;refine bI.at bJ (λp:List Nat × Nat=>b.length<=p.1.length/\p.1.length<=a.length/\(∀d∈p.1,d<4294967296)/\p.2<=1/\vl 4294967296 p.1+4294967296 ^ p.1.length*p.2=vl 4294967296 (a.take p.1.length)+vl 4294967296 b)
    (λp=>⟨[(0,.il 1 (bB a)),(5,.sl 0 0 (a.length+1)),(6,.ptr 1 0 0),(7,.fn (.func 183) [] [.ptr 1 0 0]),(9,.int .i64 p.1.length)],[(0,.row 157 1 (bB (eZ p.1 (a.length+1)))),(1,.row 209 1 [.int .u64 (p.2:Int)])],2,66⟩)
    (λp=>a.length-p.1.length) (s,c) [(0,0),(1,1)] ⟨by simp only;omega,by simp only;omega,h2,h3,by simp only;rw[hlt];exact h4⟩
    (aK _ rfl ⟨aI 0 (aM _),aI 1 (kP _ _),trivial⟩
     ⟨aP (.il' (aM _)),⟨_,rfl,.slE rfl rfl⟩,aN,⟨_,rfl,(.fn _ _ _ _ _ rfl rfl sq (g6.cons (.ptr 1 1 0 0 rfl) .nil).2)⟩,⟨_,rfl,.int (by rw[aU,hlt])⟩,trivial⟩) ?_
   clear h1 h2 h3 h4 hlt hb s c;rintro⟨s,c⟩ ⟨h0,h1,h2,h3,h4⟩;simp only at h0 h1 h2 h3 h4 |-;refine Z ?_;rw[aU];refine aL (λhb=>?_) (λhb=>?_)
   .have hlt:s.length<a.length:=su hb
    obtain⟨u,hu⟩:∃u,a[s.length]? = some u:=⟨_,Yw om⟩
    have hul:=hla _ (Y2 hu);have g1:=zY hu;have g3:=VO (s:=s) (n:=a.length+1) om;have bi:=lM (i:=s.length) (n:=a.length+1) om;refine Z ?_;repeat((first|refine aC g1 ?_|refine aY ?_);refine Z ?_)
    refine aJ.useN bJ [(1,0)] (I5 u 0 c hul (by decide) om) rfl (.s (.s (.cons (.ptr 1 0 0 0 rfl) .nil))) ⟨aI 1 (kP _ _),trivial⟩ rfl ?_;rintro r' m' n' ⟨rfl,rfl,rfl⟩;refine⟨[(0,1)],_,[(1,.row 209 1 [.int .u64 (((c+(u+0))/4294967296:Nat):Int)])],2,.same _ nn,⟨aI 0 (kP _ _),trivial⟩,rfl, ?_⟩;refine Rt ?_;repeat((first|refine aO bi ?_|refine aC g3 ?_);refine Rt ?_)
    have hstep:=z8 (B:=4294967296) (by decide) (s:=s) (x:=u) (y:=0) rfl h4;have hdv:(c+(u+0))/4294967296<=1:=om;have hmd:(c+(u+0))%4294967296<4294967296:=Zx _ (by decide);exact .mk (s++[(c+(u+0))%4294967296],(c+(u+0))/4294967296) [(0,0),(1,1)] ⟨by simp;omega,by simp;omega,gO h2 hmd,hdv,by simp only[ZA,ZZ];rw[jE hu];simpa using hstep⟩
     (aK _ rfl ⟨⟨0,_,rfl,rfl,.eq (aM _) (UD om)⟩,aI 1 (kP _ _),trivial⟩
      ⟨aP (.il' (aM _)),⟨_,rfl,.slE rfl rfl⟩,aN,⟨_,rfl,(.fn _ _ _ _ _ rfl rfl sq (g6.cons (.ptr 1 1 0 0 rfl) .nil).2)⟩,⟨_,rfl,.w64 sq ⟨by simp;omega,by simp;omega⟩⟩,trivial⟩) (by simp;omega)
   .have hlt:s.length=a.length:=by simp at hb;omega
    rw[hlt,ZJ,hsum] at h4;have bi:=lM (i:=s.length) (n:=s.length+1) om;have g3:=VO (s:=s) (n:=s.length+1) om;have hcw:IntKind.u32.wrap (c:Int)=(c:Int):=Ig om;have hz:fB (s++[c])=dg 4294967296 S:=by
     rw[kI hB _ (gO h2 om),sK,hlt,h4]
    refine Z ?_;rw[aU,<-hlt];refine Rs ?_;repeat((first|refine aO bi ?_|refine aC g3 ?_);refine Rt ?_)
    refine aJ.pre bJ [] (mem':=[]) rfl trivial (.cons (.fz' (id:=0) (ys:=bB (s++[c])) rfl rfl (by simp[aU,jP]) (by
     rw[hcw,UD om,ZU,Y9 (by rw[aU,jP]<;>simp)];simp[eZ]) (aM _)) .nil) ?_
    refine(Ad (s++[c]) (by simp;omega)).go ?_ (.cons (.il' (aM _)) .nil) (.il' (aM _));rw[hz];refine Z ?_;exact aA (.il' (aM _)) ⟨rfl,rfl,rfl⟩
theorem Xq(x y:Nat)(hx:(dg 4294967296 x).length<=1000000)(hy:(dg 4294967296 y).length<=1000000):aX prog [] 113 [.il 1 (bB (dg 4294967296 x)),.il 1 (bB (dg 4294967296 y))] (.il 1 (bB (dg 4294967296 (x+y)))):=by
 have hB:(2:Nat)<=4294967296:=by decide
 have h:=WV _ _ (l6 hB x) (l6 hB y) hx hy;rw[mO hB,mO hB] at h;exact h
def Im(b n:Nat)(l:List Nat):aQ:=[(0,.row 209 1 [.int .u64 (b:Int)]),(1,.row 30 1 [.sl 2 0 n]),(2,.row 157 1 (bB l))]
theorem qS{mem:aQ}{J:List (Nat × Nat)}{i j n m:Nat}(h:lk J i=some j)(e:n=m):tO mem J [.sl i 0 n] [.sl j 0 m]:=.cons (.one rfl rfl (.slE h e)) .nil
theorem Wa{x y b:Nat}(hx:x<4294967296)(hy:y<4294967296)(hb:b<=1):IntKind.u32.wrap ((x:Int)-IntKind.u32.wrap ((y+b:Nat):Int))=((if y+b>x then x+4294967296-(y+b) else x-(y+b):Nat):Int):=by
 rw[Uy,IR];split<;>omega
theorem I1(l:List Nat)(i x y b n:Nat)(hn:l.length=n)(hi:l[i]? = some x)(hx:x<4294967296)(hy:y<4294967296)(hb:b<=1)(hnn:n<=1000000) :
  aJ prog [] 184 [.int .i64 i,.int .u32 y,.ptr 0 0 0,.ptr 1 0 0] (Im b n l) 3
  λr m k=>r = .tup []/\m=Im (if y+b>x then 1 else 0) n (l.set i (if y+b>x then x+4294967296-(y+b) else x-(y+b)))/\k=3:=by
 have hil:=(Y0.1 hi).1;have e1:IntKind.u64.wrap (y:Int)=(y:Int):=iD om;have e2:IntKind.u64.wrap ((y:Int)+(b:Int))=((y+b:Nat):Int):=by rw[<-Int.natCast_add];exact iD om
 have e3:IntKind.u64.wrap (x:Int)=(x:Int):=iD om;have g:=mN hi;have bi:=lM (i:=i) (n:=n) om;refine aG bJ func184 rfl ?_;refine Z ?_;rw[e1,e2];repeat((first|refine aO bi ?_|refine aC g ?_|refine aY ?_);refine Z ?_)
 rw[e3];have hW:=Wa hx hy hb;refine aL (λhc=>?_) (λhc=>?_)
 all_goals
  refine Rt ?_;repeat((first|refine aO bi ?_|refine aC g ?_);refine Rt ?_)
 .have hc:y+b>x:=by simp at hc;omega
  rw[Y4 hc] at hW |-;rw[Y4 hc];exact bM (n':=3) (m':=Im 1 n (l.set i (x+4294967296-(y+b)))) [(0,0),(1,1),(2,2)] rfl ⟨aI 0 (kP _ _),⟨1,_,rfl,rfl,qS rfl rfl⟩,⟨2,_,rfl,rfl,.eq (aM _) (by rw[hW,Yy,ZP,iA])⟩,trivial⟩ (.same _ nn) ⟨rfl,rfl,rfl⟩
 .have hc:¬y+b>x:=by simp at hc;omega
  rw[Yz hc] at hW |-;rw[Yz hc];exact bM (n':=3) (m':=Im 0 n (l.set i (x-(y+b)))) [(0,0),(1,1),(2,2)] rfl ⟨aI 0 (kP _ _),⟨1,_,rfl,rfl,qS rfl rfl⟩,⟨2,_,rfl,rfl,.eq (aM _) (by rw[hW,Yy,ZP,iA])⟩,trivial⟩ (.same _ nn) ⟨rfl,rfl,rfl⟩
theorem JV(B:Nat)(a:List Nat)(i:Nat)(hi:i<=a.length):vl B a=vl B (a.take i)+B ^ i*vl B (a.drop i):=oQ B a i hi
theorem HN{s a:List Nat}{u:Nat}(h:a[s.length]? = some u):(s++a.drop s.length)[s.length]? = some u:=by
 rw[ZM (Y8 _),aAe,ZS,Zm];exact h
theorem F8{s a:List Nat}{u:Nat}(h:a[s.length]? = some u)(d:Nat):(s++a.drop s.length).set s.length d=(s++[d])++a.drop (s++[d]).length:=by
 obtain⟨h1,h2⟩:=Y0.1 h;rw[Zw _ _ (Y8 _),aAe,List.drop_eq_getElem_cons h1,aAy,ZA,ZZ];simp
theorem TZ{a b:Bool}{n m k:Nat}(ha:a=true)(hb:b=true)(h1:n<=m)(h2:m<=k):(a && (b && (Nat.ble n m && Nat.ble m k)))=true:=by
 rw[ha,hb,Y3 h1,Y3 h2];rfl
theorem X6(x y:Nat)(hxy:y<=x)(hx:(dg 4294967296 x).length<=1000000):aX prog [] 114 [.il 1 (bB (dg 4294967296 x)),.il 1 (bB (dg 4294967296 y))] (.il 1 (bB (dg 4294967296 (x-y)))):=by
 have hB:(2:Nat)<=4294967296:=by decide
 have hla:=l6 hB x;have hlb:=l6 hB y;have hva:=mO hB x;have hvb:=mO hB y;have hlen:(dg 4294967296 y).length<=(dg 4294967296 x).length:=dO hB hxy;generalize dg 4294967296 x=a at *;generalize dg 4294967296 y=b at *;refine aG bJ func114 rfl ?_;refine Z ?_;rw[aU];refine aO (Bv rfl rfl rfl om rfl) ?_;refine Rt ?_;refine aO (TZ rfl rfl (by rw[aU,Yy];omega) (by rw[aA3];omega)) ?_;refine Rt ?_;refine bI.at bJ (λp:List Nat × Nat=>p.1.length<=b.length/\(∀d∈p.1,d<4294967296)/\p.2<=1/\vl 4294967296 p.1+vl 4294967296 (b.take p.1.length)=vl 4294967296 (a.take p.1.length)+4294967296 ^ p.1.length*p.2)
  (λp=>⟨[(1,.il 1 (bB b)),(5,.ptr 1 0 0),(6,.ptr 0 0 0),(7,.fn (.func 184) [] [.ptr 0 0 0,.ptr 1 0 0]),(18,.il 1 (bB b)),(19,.int .i64 b.length),(20,.int .i64 p.1.length)],Im p.2 a.length (p.1++a.drop p.1.length),3,47⟩)
  (λp=>b.length-p.1.length) ([],0) [(2,0),(1,1),(0,2)] ⟨sq,sq,sq,by simp[vl]⟩
  (aK _ rfl ⟨aI 2 (kP _ _),⟨1,_,rfl,rfl,qS rfl sq⟩,⟨0,_,rfl,rfl,.eq (aM _) (by simp[bB])⟩,trivial⟩
   ⟨aP (.il' (aM _)),aN,aN,⟨_,rfl,(.fn _ _ _ _ _ rfl rfl sq (g6.cons (.ptr 2 0 0 0 rfl) (.cons (.ptr 1 1 0 0 rfl) .nil)).2)⟩,aP (.il' (aM _)),⟨_,rfl,.int (by rw[aU])⟩,aF,trivial⟩) ?_
 rintro⟨s,c⟩ ⟨h1,h2,h3,h4⟩;simp only at h1 h2 h3 h4 |-;refine Z ?_;refine aL (λhb=>?_) (λhb=>?_)
 .have hlt:s.length<b.length:=su hb
  obtain⟨u,hu⟩:∃u,a[s.length]? = some u:=⟨_,Yw om⟩
  obtain⟨v,hv⟩:∃v,b[s.length]? = some v:=⟨_,Yw om⟩
  have hul:=hla _ (Y2 hu);have hvl:=hlb _ (Y2 hv);have g2:=zY hv;have hll:(s++a.drop s.length).length=a.length:=by simp;omega
  refine Z ?_;repeat((first|refine aC g2 ?_|refine aY ?_);refine Z ?_)
  refine aJ.useN bJ [(0,0),(1,1),(2,2)] (I1 _ s.length u v c a.length hll (HN hu) hul hvl h3 om) rfl (.s (.s (.cons (.ptr 0 0 0 0 rfl) (.cons (.ptr 1 1 0 0 rfl) .nil)))) ⟨aI 0 (kP _ _),⟨1,_,rfl,rfl,qS rfl rfl⟩,aI 2 (aM _),trivial⟩ rfl ?_;rintro r' m' n' ⟨rfl,rfl,rfl⟩;rw[F8 hu];have hstep:=H1 (B:=4294967296) (s:=s) (x:=u) (y:=v) (b:=c) rfl h4 hul hvl h3;have hdg:=wA (B:=4294967296) (x:=u) (y:=v) (b:=c) hul hvl h3;generalize (if v+c>u then u+4294967296-(v+c) else u-(v+c))=d at hstep hdg |-;have hbo:(if v+c>u then 1 else 0)<=1:=by split<;>omega
  generalize (if v+c>u then 1 else 0)=bo at hstep hbo |-;refine⟨[(0,0),(1,1),(2,2)],_,Im bo a.length ((s++[d])++a.drop (s++[d]).length),3,.same _ nn,⟨aI 0 (kP _ _),⟨1,_,rfl,rfl,qS rfl rfl⟩,aI 2 (aM _),trivial⟩,rfl, ?_⟩;refine Z ?_;exact .mk (s++[d],bo) [(0,0),(1,1),(2,2)] ⟨by simp;omega,gO h2 hdg,hbo,by simp only[ZA,ZZ];rw[jE hu,jE hv];exact hstep⟩
   (aK _ rfl ⟨aI 0 (kP _ _),⟨1,_,rfl,rfl,qS rfl rfl⟩,aI 2 (aM _),trivial⟩
    ⟨aP (.il' (aM _)),aN,aN,⟨_,rfl,(.fn _ _ _ _ _ rfl rfl sq (g6.cons (.ptr 0 0 0 0 rfl) (.cons (.ptr 1 1 0 0 rfl) .nil)).2)⟩,aP (.il' (aM _)),aF,⟨_,rfl,.w64 sq ⟨by simp;omega,by simp;omega⟩⟩,trivial⟩) (by simp;omega)
 .have hlt:s.length=b.length:=by simp at hb;omega
  rw[hlt,ZJ,hvb] at h4;refine Z ?_;refine bI.at bJ (λp:List Nat × Nat=>p.1.length<=a.length/\(∀d∈p.1,d<4294967296)/\p.2<=1/\vl 4294967296 p.1+y=vl 4294967296 (a.take p.1.length)+4294967296 ^ p.1.length*p.2)
   (λp=>⟨[(5,.ptr 1 0 0),(6,.ptr 0 0 0),(7,.fn (.func 184) [] [.ptr 0 0 0,.ptr 1 0 0]),(10,.int .i64 p.1.length)],Im p.2 a.length (p.1++a.drop p.1.length),3,47⟩)
   (λp=>a.length-p.1.length) (s,c) [(0,0),(1,1),(2,2)] ⟨by simp only;omega,h2,h3,by simp only;rw[hlt];exact h4⟩
   (aK _ rfl ⟨aI 0 (kP _ _),⟨1,_,rfl,rfl,qS rfl rfl⟩,aI 2 (aM _),trivial⟩
    ⟨aN,aN,⟨_,rfl,(.fn _ _ _ _ _ rfl rfl sq (g6.cons (.ptr 0 0 0 0 rfl) (.cons (.ptr 1 1 0 0 rfl) .nil)).2)⟩,⟨_,rfl,.int (by rw[aU,hlt])⟩,trivial⟩) ?_
  clear h1 h2 h3 h4 hlt hb s c;rintro⟨s,c⟩ ⟨h1,h2,h3,h4⟩;simp only at h1 h2 h3 h4 |-;refine Z ?_;have hsp:=JV 4294967296 a s.length h1;refine aL (λhb=>?_) (λhb=>?_)
  .rw[hb];have hlt:s.length<a.length:=su hb
   refine Z ?_;refine aL (λhc=>?_) (λhc=>?_)
   .obtain⟨u,hu⟩:∃u,a[s.length]? = some u:=⟨_,Yw om⟩
    have hul:=hla _ (Y2 hu);have hll:(s++a.drop s.length).length=a.length:=by simp;omega
    refine Rt ?_;refine aJ.useN bJ [(0,0),(1,1),(2,2)] (I1 _ s.length u 0 c a.length hll (HN hu) hul (by decide) h3 om) rfl (.s (.s (.cons (.ptr 0 0 0 0 rfl) (.cons (.ptr 1 1 0 0 rfl) .nil)))) ⟨aI 0 (kP _ _),⟨1,_,rfl,rfl,qS rfl rfl⟩,aI 2 (aM _),trivial⟩ rfl ?_;rintro r' m' n' ⟨rfl,rfl,rfl⟩;rw[F8 hu];have hstep:=H1 (B:=4294967296) (s:=s) (x:=u) (y:=0) (b:=c) rfl h4 hul (by decide) h3;have hdg:=wA (B:=4294967296) (x:=u) (y:=0) (b:=c) hul (by decide) h3;generalize (if 0+c>u then u+4294967296-(0+c) else u-(0+c))=d at hstep hdg |-;have hbo:(if 0+c>u then 1 else 0)<=1:=by split<;>omega
    generalize (if 0+c>u then 1 else 0)=bo at hstep hbo |-;refine⟨[(0,0),(1,1),(2,2)],_,Im bo a.length ((s++[d])++a.drop (s++[d]).length),3,.same _ nn,⟨aI 0 (kP _ _),⟨1,_,rfl,rfl,qS rfl rfl⟩,aI 2 (aM _),trivial⟩,rfl, ?_⟩;refine Z ?_;exact .mk (s++[d],bo) [(0,0),(1,1),(2,2)] ⟨by simp;omega,gO h2 hdg,hbo,by simp only[ZA,ZZ];rw[jE hu];simpa using hstep⟩
     (aK _ rfl ⟨aI 0 (kP _ _),⟨1,_,rfl,rfl,qS rfl rfl⟩,aI 2 (aM _),trivial⟩
      ⟨aN,aN,⟨_,rfl,(.fn _ _ _ _ _ rfl rfl sq (g6.cons (.ptr 0 0 0 0 rfl) (.cons (.ptr 1 1 0 0 rfl) .nil)).2)⟩,⟨_,rfl,.w64 sq ⟨by simp;omega,by simp;omega⟩⟩,trivial⟩) (by simp;omega)
   .have hc0:c=0:=by simp at hc;omega
    subst hc0;have hV:vl 4294967296 (s++a.drop s.length)=x-y:=by rw[iZ];omega
    refine Rt ?_;have hL:∀d∈s++a.drop s.length,d<4294967296:=λd hd=>by
     rcases ZI.1 hd with hd|hd
     .exact h2 d hd
     .exact hla d (Zr hd)
    have hll:(s++a.drop s.length).length=a.length:=by simp;omega
    have hz:fB (s++a.drop s.length)=dg 4294967296 (x-y):=by rw[kI hB _ hL,hV]
    refine aJ.pre bJ [] (mem':=[]) rfl trivial (.cons (.fz' (id:=2) (ys:=bB (s++a.drop s.length)) rfl rfl (by rw[aU,hll];omega) (by rw[ZU,Y9 (by rw[aU,hll];omega)]) (aM _)) .nil) ?_;refine(Ad (s++a.drop s.length) (by rw[hll];omega)).go ?_ (.cons (.il' (aM _)) .nil) (.il' (aM _));rw[hz];refine Z ?_;exact aA (.il' (aM _)) ⟨rfl,rfl,rfl⟩
  .rw[hb];have hlt:s.length=a.length:=by simp at hb;omega
   have hc0:c=0:=by
    rcases ZC c with e|e
    .exact e
    .have hc1:c=1:=om;have:=vS hB s h2;rw[hlt,ZJ,hva,hc1] at h4;rw[hlt] at this;omega
   subst hc0;have hV:vl 4294967296 (s++a.drop s.length)=x-y:=by rw[iZ];omega
   refine Rt ?_;have hL:∀d∈s++a.drop s.length,d<4294967296:=λd hd=>by
    rcases ZI.1 hd with hd|hd
    .exact h2 d hd
    .exact hla d (Zr hd)
   have hll:(s++a.drop s.length).length=a.length:=by simp;omega
   have hz:fB (s++a.drop s.length)=dg 4294967296 (x-y):=by rw[kI hB _ hL,hV]
   refine aJ.pre bJ [] (mem':=[]) rfl trivial (.cons (.fz' (id:=2) (ys:=bB (s++a.drop s.length)) rfl rfl (by rw[aU,hll];omega) (by rw[ZU,Y9 (by rw[aU,hll];omega)]) (aM _)) .nil) ?_;refine(Ad (s++a.drop s.length) (by rw[hll];omega)).go ?_ (.cons (.il' (aM _)) .nil) (.il' (aM _));rw[hz];refine Z ?_;exact aA (.il' (aM _)) ⟨rfl,rfl,rfl⟩
theorem nN(b:Bool):jU [.agg [.bool b,.nsl]]:=.cons (.agg' (.cons (X8 _) (.cons .nsl .nil))) .nil
theorem HO{x y p c:Nat}(hx:x<4294967296)(hy:y<4294967296)(hp:p<4294967296)(hc:c<4294967296):x*y<=18446744065119617025/\x*y+p<18446744073709551616/\c+(x*y+p)<18446744073709551616/\(c+(x*y+p))/4294967296<4294967296:=by
 have h:x*y<=4294967295*4294967295:=Z5 om om;refine⟨om,om,om, ?_⟩;rw[aAE om];omega
theorem Ch{l:List Nat}{i k d:Nat}(h:i≠k):(l.set i d)[k]? = l[k]? := by rw[aA7,Yz h]
theorem Xm(x y:Nat)(hx:(dg 4294967296 x).length<=1000000)(hy:(dg 4294967296 y).length<=1000000):aX prog [] 245 [.il 1 (bB (dg 4294967296 x)),.il 1 (bB (dg 4294967296 y))] (.il 1 (bB (dg 4294967296 (x*y)))):=by
 have hB:(2:Nat)<=4294967296:=by decide
 have hla:=l6 hB x;have hlb:=l6 hB y;have hva:=mO hB x;have hvb:=mO hB y;generalize dg 4294967296 x=a at *;generalize dg 4294967296 y=b at *;refine aG bJ func245 rfl ?_;refine Z ?_;rw[aU,aU];have hw:IntKind.i64.wrap ((a.length:Int)+(b.length:Int))=((a.length+b.length:Nat):Int):=by rw[bS oq];omega
 rw[hw];refine aO (Bv rfl rfl rfl om rfl) ?_;refine Z ?_;refine bI.at bJ (λp:Nat × List Nat=>p.1<=a.length/\p.2.length=a.length+b.length/\(∀d∈p.2,d<4294967296)/\vl 4294967296 p.2=vl 4294967296 (a.take p.1)*y/\∀k,p.1+b.length<=k->k<a.length+b.length->p.2[k]? = some 0)
  (λp=>⟨[(1,.il 1 (bB b)),(5,.sl 0 0 (a.length+b.length)),(17,.il 1 (bB a)),(18,.int .i64 a.length),(19,.int .i64 p.1)],[(0,.row 157 1 (bB p.2))],1,67⟩)
  (λp=>a.length-p.1) (0,List.replicate (a.length+b.length) 0) [(0,0)] ⟨sq,sq,sq,by simp only;rw[Jb];simp[vl],λk h1 h2=>by simp only;rw[aAm,Y4 h2]⟩
  (aK _ rfl ⟨⟨0,_,rfl,rfl,.eq (aM _) (by rw[yG,Yy])⟩,trivial⟩
   ⟨aP (.il' (aM _)),⟨_,rfl,.slE rfl (Yy _)⟩,aP (.il' (aM _)),⟨_,rfl,.int (by rw[aU])⟩,aF,trivial⟩) ?_
 rintro⟨i,P⟩ ⟨h1,h2,h3,h4,h5⟩;simp only at h1 h2 h3 h4 h5 |-;refine Z ?_;refine aL (λhb=>?_) (λhb=>?_)
 .have hlt:i<a.length:=su hb
  obtain⟨u,hu⟩:∃u,a[i]? = some u:=⟨_,Yw hlt⟩
  have hul:=hla _ (Y2 hu);have g1:=zY hu;refine Z ?_;refine aC g1 ?_;refine Z ?_;refine bI.at bJ (λp:Nat × List Nat × Nat=>p.1<=b.length/\p.2.1.length=a.length+b.length/\(∀d∈p.2.1,d<4294967296)/\p.2.2<4294967296 /\
    vl 4294967296 p.2.1+4294967296 ^ (i+p.1)*p.2.2=vl 4294967296 (a.take i)*y+u*(4294967296 ^ i*vl 4294967296 (b.take p.1))/\∀k,i+b.length<=k->k<a.length+b.length->p.2.1[k]? = some 0)
   (λp=>⟨[(1,.il 1 (bB b)),(5,.sl 0 0 (a.length+b.length)),(6,.int .i64 i),(7,.int .u32 u),(8,.int .u64 (p.2.2:Int)),(17,.il 1 (bB a)),(18,.int .i64 a.length),(19,.int .i64 i),(24,.il 1 (bB b)),(25,.int .i64 b.length),(26,.int .i64 p.1)],[(0,.row 157 1 (bB p.2.1))],1,67⟩)
   (λp=>b.length-p.1) (0,P,0) [(0,0)] ⟨sq,h2,h3,sq,by simp only;rw[h4];simp[vl],h5⟩
   (aK _ rfl ⟨aI 0 (aM _),trivial⟩
    ⟨aP (.il' (aM _)),⟨_,rfl,.slE rfl rfl⟩,aF,aF,aF,aP (.il' (aM _)),aF,aF,aP (.il' (aM _)),⟨_,rfl,.int (by rw[aU])⟩,aF,trivial⟩) ?_
  rintro⟨j,Q,c⟩ ⟨h0,k2,k3,hc,k4,k5⟩;simp only at h0 k2 k3 hc k4 k5 |-;refine Z ?_;refine aL (λhb=>?_) (λhb=>?_)
  .have hlt2:j<b.length:=su hb
   obtain⟨v,hv⟩:∃v,b[j]? = some v:=⟨_,Yw hlt2⟩
   obtain⟨p,hp⟩:∃p,Q[i+j]? = some p:=⟨_,Yw om⟩
   have hvl:=hlb _ (Y2 hv);have hpl:=k3 _ (Y2 hp);have g2:=zY hv;have g3:=mN hp;have bi:=lM (i:=i+j) (n:=a.length+b.length) om;obtain⟨q1,q2,q3,q4⟩:=HO hul hvl hpl hc;have e1:IntKind.u64.wrap (u:Int)=(u:Int):=iD om;have e2:IntKind.u64.wrap (v:Int)=(v:Int):=iD om;have e3:IntKind.u64.wrap ((u:Int)*(v:Int))=((u*v:Nat):Int):=by rw[<-Int.natCast_mul];exact iD om
   have e4:IntKind.i64.wrap ((i:Int)+(j:Int))=((i+j:Nat):Int):=by rw[bS oq];omega
   have e5:IntKind.u64.wrap (p:Int)=(p:Int):=iD om;have e6:IntKind.u64.wrap (((u*v:Nat):Int)+(p:Int))=((u*v+p:Nat):Int):=by rw[<-Int.natCast_add];exact iD om
   have e7:IntKind.u64.wrap ((c:Int)+((u*v+p:Nat):Int))=((c+(u*v+p):Nat):Int):=by rw[<-Int.natCast_add];exact iD om
   refine Z ?_;refine aC g2 ?_;refine Z ?_;rw[e1,e2,e3,e4];repeat((first|refine aO bi ?_|refine aC g3 ?_|refine aY ?_);refine Z ?_)
   rw[e5,e6,e7];refine Rs ?_;repeat((first|rw[e4]|refine aO bi ?_|refine aC g3 ?_);refine Rt ?_)
   have hms:=Ol (B:=4294967296) hp k4 (y:=v);have hmd:(c+(u*v+p))%4294967296<4294967296:=Zx _ (by decide);exact .mk (j+1,Q.set (i+j) ((c+(u*v+p))%4294967296),(c+(u*v+p))/4294967296) [(0,0)]
    ⟨by simp only;omega,by simp only[aBg];exact k2,O6 k3 hmd,q4,by
      simp only;rw[jE hv,Nat.mul_add (4294967296 ^ i),<-Nat.mul_assoc (4294967296 ^ i) (4294967296 ^ j),<-Nat.pow_add];exact hms,λk z1 z2=>by simp only;rw[Ch om];exact k5 k z1 z2⟩
    (aK _ rfl ⟨⟨0,_,rfl,rfl,.eq (aM _) (by rw[Uy,Yy,ZP,iA])⟩,trivial⟩
     ⟨aP (.il' (aM _)),⟨_,rfl,.slE rfl rfl⟩,aF,aF,⟨_,rfl,.int Bh⟩,aP (.il' (aM _)),aF,aF,aP (.il' (aM _)),aF,⟨_,rfl,.w64 sq ⟨by simp only;omega,by simp only;omega⟩⟩,trivial⟩) (by simp only;omega)
  .have hj:j=b.length:=by simp at hb;omega
   subst hj;rw[ZJ,hvb] at k4;have e4:IntKind.i64.wrap ((i:Int)+(b.length:Int))=((i+b.length:Nat):Int):=by rw[bS oq];omega
   have hp:=k5 (i+b.length) om om;have g3:=mN hp;have bi:=lM (i:=i+b.length) (n:=a.length+b.length) om;have hvs:=Kn 4294967296 Q (i+b.length) c 0 hp;refine Z ?_;rw[aU,e4];refine Rs ?_;repeat((first|refine aO bi ?_|refine aC g3 ?_);refine Rt ?_)
   exact .mk (i+1,Q.set (i+b.length) c) [(0,0)]
    ⟨by simp only;omega,by simp only[aBg];exact k2,O6 k3 hc,by
      simp only;rw[jE hu,Nat.add_mul,Nat.mul_assoc (4294967296 ^ i),aAO (4294967296 ^ i),<-k4];omega,λk z1 z2=>by simp only;rw[Ch om];exact k5 k om z2⟩
    (aK _ rfl ⟨⟨0,_,rfl,rfl,.eq (aM _) (by rw[Ig hc,Yy,ZP,iA])⟩,trivial⟩
     ⟨aP (.il' (aM _)),⟨_,rfl,.slE rfl rfl⟩,aP (.il' (aM _)),aF,⟨_,rfl,.w64 sq ⟨by simp only;omega,by simp only;omega⟩⟩,trivial⟩) (by simp only;omega)
 .have hi:i=a.length:=by simp at hb;omega
  subst hi;rw[ZJ,hva] at h4;have hz:fB P=dg 4294967296 (x*y):=by rw[kI hB _ h3,h4]
  refine Z ?_;refine aJ.pre bJ [] (mem':=[]) rfl trivial (.cons (.fz' (id:=0) (ys:=bB P) rfl rfl (by rw[aU,h2];omega) (by rw[ZU,Y9 (by rw[aU,h2];omega)]) (aM _)) .nil) ?_;refine(Ad P (by rw[h2];omega)).go ?_ (.cons (.il' (aM _)) .nil) (.il' (aM _));rw[hz];refine Z ?_;exact aA (.il' (aM _)) ⟨rfl,rfl,rfl⟩
theorem nI{B:Nat}(hB:2<=B):∀l:List Nat,(∀d∈l,d<B)->l=eZ (dg B (vl B l)) l.length
 | [],_=>by simp[vl,fP,eZ]
 | d::r,h=>by
  have ih:=nI hB r λx hx=>h x (by simp[hx])
  have hd:=h d sq;rcases ZC (d+B*vl B r) with e|e
  .have hd0:d=0:=om;have hv0:vl B r=0:=by
    rcases ZC (vl B r) with h1|h1
    .exact h1
    .have:=aAM (show 0<B by omega) h1;omega
   rw[hv0,fP] at ih;rw[vl,hv0,hd0,aAx,ZP,fP]
   conv=>lhs;rw[ih]
   simp[eZ,Zq]
  .rw[vl,Lt hB hd e]
   conv=>lhs;rw[ih]
   simp[eZ]
theorem Cn{z n:Nat}:fB (eZ (dg 4294967296 z) n)=dg 4294967296 z:=by
 have hB:(2:Nat)<=4294967296:=by decide
 have hall:∀d∈eZ (dg 4294967296 z) n,d<4294967296:=λd hd=>by
  rcases ZI.1 hd with h|h
  .exact l6 hB z d h
  .rw[aAK h];decide
 rw[kI hB _ hall,G1,mO hB]
def qT(m:Nat)(R:List Nat):List Nat:=List.replicate m 0++R
theorem PL{i:Nat}{R:List Nat}:(qT (i+1) R)[i]? = some 0:=by
 unfold qT;rw[ZK sq,aAm,Y4 om]
theorem Ic{i d:Nat}{R:List Nat}:(qT (i+1) R).set i d=qT i (d::R):=by
 unfold qT;rw[List.replicate_succ',List.append_assoc,Zw _ _ sq];simp
theorem O0(x d:Nat)(hx:(dg 4294967296 x).length<=1000000)(hd0:0<d)(hd:d<4294967296):aX prog [] 85 [.il 1 (bB (dg 4294967296 x)),.int .u32 d] (.tup [.il 1 (bB (eZ (dg 4294967296 (x/d)) (dg 4294967296 x).length)),.int .u32 ((x%d:Nat):Int)]):=by
 have hB:(2:Nat)<=4294967296:=by decide
 have hla:=l6 hB x;have hva:=mO hB x;generalize dg 4294967296 x=a at *;refine aG bJ func85 rfl ?_;refine Z ?_;rw[aU];refine aO (Bv rfl rfl rfl om rfl) ?_;refine Z ?_;refine bI.at bJ (λp:Nat × List Nat × Nat=>p.1<=a.length/\p.2.1.length=a.length-p.1/\(∀d∈p.2.1,d<4294967296)/\p.2.2<d/\vl 4294967296 (a.drop p.1)=vl 4294967296 p.2.1*d+p.2.2)
  (λp=>⟨[(0,.il 1 (bB a)),(1,.int .u32 d),(6,.sl 0 0 a.length),(7,.int .u64 (p.2.2:Int)),(8,.int .i64 ((p.1:Int)-1))],[(0,.row 157 1 (bB (qT p.1 p.2.1)))],1,42⟩)
  (λp=>p.1) (a.length,[],0) [(0,0)] ⟨sq,sq,sq,hd0,by simp[vl]⟩
  (aK _ rfl ⟨⟨0,_,rfl,rfl,.eq (aM _) (by simp[qT,yG])⟩,trivial⟩
   ⟨aP (.il' (aM _)),aF,⟨_,rfl,.slE rfl (Yy _)⟩,aF,⟨_,rfl,.w64 (by rw[aU]) ⟨by simp only;omega,by simp only;omega⟩⟩,trivial⟩) ?_
 rintro⟨m,R,r⟩ ⟨h1,h2,h3,h4,h5⟩;simp only at h1 h2 h3 h4 h5 |-;refine Z ?_;refine aL (λhb=>?_) (λhb=>?_)
 .have hm1:0<m:=by simp at hb;omega
  obtain⟨i,rfl⟩:∃i,m=i+1:=⟨m-1,om⟩
  rw[show (((i+1:Nat):Int)-1)=(i:Int) by omega];obtain⟨u,hu⟩:∃u,a[i]? = some u:=⟨_,Yw om⟩
  have hul:=hla _ (Y2 hu);have g1:=zY hu;have g3:(bB (qT (i+1) R))[0+((i:Nat):Int).toNat]? = some (.int .u32 0):=mN PL;have bi:=lM (i:=i) (n:=a.length) om;have e1:IntKind.u64.wrap (u:Int)=(u:Int):=iD om;have e2:IntKind.u64.wrap (d:Int)=(d:Int):=iD om;have e3:bits BinOp.or IntKind.u64 (IntKind.u64.wrap ((r:Int)*2 ^ min (Int.toNat 32) IntKind.u64.bits)) (u:Int)=((r*4294967296+u:Nat):Int):=J6 om hul;obtain⟨s1,s2,s3⟩:=PQ (B:=4294967296) (by decide) (x:=u) hd0 h5 h4;have s3:=s3 hul;refine Z ?_;repeat((first|refine aC g1 ?_|refine aY ?_);refine Z ?_)
  have hnd:(!decide ((d:Int)=0))=true:=by simp;omega
  have e4:IntKind.u64.wrap (((r*4294967296+u:Nat):Int).tdiv (d:Int))=(((r*4294967296+u)/d:Nat):Int):=by rw[JG];exact iD om
  have e5:IntKind.u64.wrap (((r*4294967296+u:Nat):Int).tmod (d:Int))=(((r*4294967296+u)%d:Nat):Int):=by rw[Cg];exact iD om
  rw[e1,e2,e3,e4];refine aO hnd ?_;refine Rt ?_;repeat((first|refine aO bi ?_|refine aC g3 ?_);refine Rt ?_)
  try rw[e2]
  try rw[e5]
  refine aO hnd ?_;refine Z ?_;exact .mk (i,(r*4294967296+u)/d::R,(r*4294967296+u)%d) [(0,0)]
   ⟨by simp only;omega,by simp only[Zc];omega,λz hz=>by
     rcases Y6.1 hz with rfl|hz
     .exact s3
     .exact h3 z hz,s2,by simp only[vl];rw[dR hu];exact s1⟩
   (aK _ rfl ⟨⟨0,_,rfl,rfl,.eq (aM _) (by rw[Ig s3,Yy,ZP,iA,Ic])⟩,trivial⟩
    ⟨aP (.il' (aM _)),aF,⟨_,rfl,.slE rfl rfl⟩,aF,⟨_,rfl,.w64 rfl ⟨by simp only;omega,by simp only;omega⟩⟩,trivial⟩) (by simp only;omega)
 .have hm0:m=0:=by simp at hb;omega
  subst hm0;rw[ZU,hva] at h5;obtain⟨q1,q2⟩:=uH (U:=x) (v:=d) (d:=vl 4294967296 R) (by rw[Nat.add_mul];omega) om;have hR:qT 0 R=eZ (dg 4294967296 (x/d)) a.length:=by
   have:=nI hB R h3;rw[h2,Nat.sub_zero,<-q1] at this;unfold qT;rw[List.replicate_zero,Zi];exact this
  have hr:x%d=r:=om;have e6:IntKind.u32.wrap (r:Int)=(r:Int):=Ig om;refine Z ?_;rw[hR,e6,hr];have hl:(eZ (dg 4294967296 (x/d)) a.length).length=a.length:=by rw[<-hR];simp[qT];omega
  exact cW (r':=.tup [.il 1 (bB (eZ (dg 4294967296 (x/d)) a.length)),.int .u32 (r:Int)]) (.tup' (.cons (.fz' (id:=0) rfl rfl (by rw[aU,hl];omega) (by rw[ZU];exact Y9 (by rw[aU,hl];omega)) (aM _)) (.s .nil))) ⟨rfl,rfl,rfl⟩
theorem Wx{x s:Nat}(hs:s<=32):IntKind.u32.wrap ((x:Int)*2 ^ (min ((s:Nat):Int).toNat IntKind.u32.bits))=(((x*2 ^ s)%4294967296:Nat):Int):=by
 have e:min ((s:Nat):Int).toNat IntKind.u32.bits=s:=by rw[Yy];exact Z1 hs
 rw[e,show (x:Int)*2 ^ s=((x*2 ^ s:Nat):Int) by rw[Int.natCast_mul,Int.natCast_pow];rfl,Uy]
theorem S0{x s:Nat}(hs:s<=32):((x:Int).fdiv (2 ^ (min ((s:Nat):Int).toNat IntKind.u32.bits)))=((x/2 ^ s:Nat):Int):=by
 have e:min ((s:Nat):Int).toNat IntKind.u32.bits=s:=by rw[Yy];exact Z1 hs
 rw[e,show ((2:Int) ^ s)=((2 ^ s:Nat):Int) by rw[Int.natCast_pow];rfl,IG]
theorem TV{s:Nat}(hs:s<=32):IntKind.i64.wrap (32-(s:Int))=((32-s:Nat):Int):=by rw[bS oq];omega
theorem OU{A R:List Nat}{i m u:Nat}(h:A[i]? = some u)(hi:i<m)(hm:m<=A.length):(A.take m++R)[i]? = some u:=by
 rw[ZK (by rw[ZO];omega),Za,Y4 hi];exact h
theorem Up{A R:List Nat}{i d:Nat}(h:i<A.length):(A.take (i+1)++R).set i d=A.take i++(d::R):=by
 obtain⟨u,hu⟩:∃u,A[i]? = some u:=⟨_,Yw h⟩
 have hl:(A.take i).length=i:=by rw[ZO];omega
 rw[wQ hu,List.append_assoc,Zw _ _ om,hl,aAe];rfl
theorem SU{A R:List Nat}{i d:Nat}(h:i<A.length):(A.take i++(d::R))[i]? = some d:=by
 have hl:(A.take i).length=i:=by rw[ZO];omega
 rw[ZM om,hl,aAe];rfl
theorem TB{A R:List Nat}{i d e:Nat}(h:i<A.length):(A.take i++(d::R)).set i e=A.take i++(e::R):=by
 have hl:(A.take i).length=i:=by rw[ZO];omega
 rw[Zw _ _ om,hl,aAe];rfl
def oF(A:List Nat)(m q:Nat):Nat:=if m=0 then 0 else A.getD (m-1) 0/q
theorem Iv(x s:Nat)(hs:s<32)(hx:(dg 4294967296 x).length<=1000000):aJ prog [] 179 [.il 1 (bB (dg 4294967296 x)),.int .i64 s] [] 0
  λr m n=>r = .sl 0 0 ((dg 4294967296 x).length+1)/\m=[(0,.row 157 1 (bB (eZ (dg 4294967296 (x*2 ^ s)) ((dg 4294967296 x).length+1))))]/\n=1:=by
 have hB:(2:Nat)<=4294967296:=by decide
 have hla:=l6 hB x;have hva:=mO hB x;generalize dg 4294967296 x=a at *;obtain⟨A,hA⟩:∃A,A=a++[0]:=⟨_,rfl⟩
 have hAl:A.length=a.length+1:=by rw[hA];simp
 have hAd:∀d∈A,d<4294967296:=by rw[hA];exact gO hla (by decide)
 have hAv:vl 4294967296 A=x:=by rw[hA,sK,hva];simp
 have hA0:A.getD a.length 0=0:=by rw[hA,Yx,ZM (Y8 _)];simp
 have hpq:2 ^ s*2 ^ (32-s)=4294967296:=Aw om;have hp:0<2 ^ s:=aAN (by decide);have hq:0<2 ^ (32-s):=aAN (by decide);refine aG bJ func179 rfl ?_;refine Z ?_;rw[aU];have hw:IntKind.i64.wrap ((a.length:Int)+1)=((a.length+1:Nat):Int):=by rw[bS oq];omega
 rw[hw];refine aO (Bv rfl rfl rfl om rfl) ?_;refine Z ?_;refine aO (TZ rfl rfl (by rw[aU,Yy];omega) (by rw[aA3];omega)) ?_;refine Z ?_;refine bI.at bJ (λp:Nat × List Nat=>p.1<=a.length+1/\p.2.length=a.length+1-p.1/\(∀d∈p.2,d<4294967296)/\vl 4294967296 p.2=vl 4294967296 (A.drop p.1)*2 ^ s+oF A p.1 (2 ^ (32-s)))
  (λp=>⟨[(1,.int .i64 s),(5,.sl 0 0 (a.length+1)),(6,.int .i64 ((p.1:Int)-1))],[(0,.row 157 1 (bB (A.take p.1++p.2)))],1,48⟩)
  (λp=>p.1) (a.length+1,[]) [(0,0)] ⟨sq,sq,sq,by simp only[oF];rw[Yz om,aAZ,hA0,Zy om];simp[vl]⟩
  (aK _ rfl ⟨⟨0,_,rfl,rfl,.eq (aM _) (by
    rw[aAi,Y9 om,hA,Jf,aU,Yy,List.drop_replicate,show a.length+1-a.length=1 by omega];rfl)⟩,trivial⟩
   ⟨aF,⟨_,rfl,.slE rfl (Yy _)⟩,⟨_,rfl,.int (by rw[aU];simp only;omega)⟩,trivial⟩) ?_
 rintro⟨m,R⟩ ⟨h1,h2,h3,h4⟩;simp only at h1 h2 h3 h4 |-;refine Z ?_;refine aL (λhb=>?_) (λhb=>?_)
 .have hm1:0<m:=by simp at hb;omega
  obtain⟨i,rfl⟩:∃i,m=i+1:=⟨m-1,om⟩
  rw[show (((i+1:Nat):Int)-1)=(i:Int) by omega];obtain⟨u,hu⟩:∃u,A[i]? = some u:=⟨_,Yw om⟩
  have hul:=hAd _ (Y2 hu);have g1:=mN (OU (R:=R) hu (aAH i) om);have bi:=lM (i:=i) (n:=a.length+1) om;have e1:=Wx (x:=u) (s:=s) om;refine Rt ?_;repeat((first|refine aO bi ?_|refine aC g1 ?_);refine Rt ?_)
  have hrow:(bB (A.take (i+1)++R)).set (0+((i:Nat):Int).toNat) (.int .u32 (IntKind.u32.wrap ((u:Int)*2 ^ min ((s:Nat):Int).toNat IntKind.u32.bits)))=bB (A.take i++((u*2 ^ s)%4294967296::R)):=by
   rw[e1,Yy,ZP,iA,Up om]
  rw[hrow];have hbd:oF A (i+1) (2 ^ (32-s))=u/2 ^ (32-s):=by
   unfold oF;rw[Yz om,aAZ,Yx,hu];rfl
  rw[hbd] at h4;have hup:∀y,(u*2 ^ s)%4294967296+y+4294967296*vl 4294967296 R=(u+4294967296*vl 4294967296 (A.drop (i+1)))*2 ^ s+y:=λy=>by rw[h4];exact SE hpq hp
  refine aL (λhc=>?_) (λhc=>?_)
  .rw[hc];have hi0:0<i:=by simp at hc;omega
   refine Z ?_;refine aL (λhc2=>?_) (λhc2=>?_)
   .have hs0:0<s:=by simp at hc2;omega
    obtain⟨w,hw1⟩:∃w,A[i-1]? = some w:=⟨_,Yw om⟩
    have hwl:=hAd _ (Y2 hw1);have e2:IntKind.i64.wrap ((i:Int)-1)=((i-1:Nat):Int):=by rw[bS oq];omega
    have e3:=TV (s:=s) om;have e4:=S0 (x:=w) (s:=32-s) om;obtain⟨d1,d2,d3⟩:=JK (x:=u) (y:=w) hpq hp hq hwl;have hmd:(u*2 ^ s)%4294967296<4294967296:=Zx _ (by decide);have e5:bits .or .u32 (((u*2 ^ s)%4294967296:Nat):Int) ((w/2 ^ (32-s):Nat):Int)=(((u*2 ^ s)%4294967296+w/2 ^ (32-s):Nat):Int):=by
     rw[Fg hmd om,Ju d2 d3]
    have g2:(bB (A.take i++((u*2 ^ s)%4294967296::R)))[0+((i:Nat):Int).toNat]? = some (.int .u32 (((u*2 ^ s)%4294967296:Nat):Int)):=mN (SU om);have g3:(bB (A.take i++((u*2 ^ s)%4294967296::R)))[0+(((i-1:Nat)):Int).toNat]? = some (.int .u32 (w:Int)):=mN (OU hw1 om om);have bi2:=lM (i:=i-1) (n:=a.length+1) om;have hdl:=d1;have hV:vl 4294967296 (((u*2 ^ s)%4294967296+w/2 ^ (32-s))::R)=vl 4294967296 (A.drop i)*2 ^ s+oF A i (2 ^ (32-s)):=by
     rw[vl,hup,dR hu];unfold oF;rw[Yz om,Yx,hw1];rfl
    refine Z ?_;try rw[e2]
    refine Rs ?_;repeat((first|refine aO bi ?_|refine aC g2 ?_|refine aO bi2 ?_|refine aC g3 ?_|rw[e2]);refine Rt ?_)
    rw[e3];refine Rt ?_;repeat((first|refine aO bi ?_|refine aC g2 ?_);refine Rt ?_)
    exact .mk (i,((u*2 ^ s)%4294967296+w/2 ^ (32-s))::R) [(0,0)]
     ⟨by simp only;omega,by simp only[Zc];omega,λz hz=>by
       rcases Y6.1 hz with rfl|hz
       .exact hdl
       .exact h3 z hz,hV⟩
     (aK _ rfl ⟨⟨0,_,rfl,rfl,.eq (aM _) (by rw[e4,e5,Yy,ZP,iA,TB om])⟩,trivial⟩
      ⟨aF,⟨_,rfl,.slE rfl rfl⟩,⟨_,rfl,.w64 rfl ⟨by simp only;omega,by simp only;omega⟩⟩,trivial⟩) (by simp only;omega)
   .have hs0:s=0:=by simp at hc2;omega
    subst hs0;have hdl:(u*2 ^ 0)%4294967296<4294967296:=Zx _ (by decide);have hV:vl 4294967296 ((u*2 ^ 0)%4294967296::R)=vl 4294967296 (A.drop i)*2 ^ 0+oF A i (2 ^ (32-0)):=by
     have hz:oF A i (2 ^ (32-0))=0:=by
      unfold oF;split
      .rfl
      .rw[Yx];cases hw1:A[i-1]? with
       | none=>simp
       | some w=>
        have:=hAd _ (Y2 hw1);simp only[aAt];exact aAj (su this)
     have:=hup 0;rw[Zm,Zm] at this;rw[vl,this,dR hu,hz];exact(Zm _).symm
    refine Z ?_;exact .mk (i,(u*2 ^ 0)%4294967296::R) [(0,0)]
     ⟨by simp only;omega,by simp only[Zc];omega,λz hz=>by
       rcases Y6.1 hz with rfl|hz
       .exact hdl
       .exact h3 z hz,hV⟩
     (aK _ rfl ⟨aI 0 (aM _),trivial⟩
      ⟨aF,⟨_,rfl,.slE rfl rfl⟩,⟨_,rfl,.w64 rfl ⟨by simp only;omega,by simp only;omega⟩⟩,trivial⟩) (by simp only;omega)
  .rw[hc];have hi0:i=0:=by simp at hc;omega
   subst hi0;have hdl:(u*2 ^ s)%4294967296<4294967296:=Zx _ (by decide);have hV:vl 4294967296 ((u*2 ^ s)%4294967296::R)=vl 4294967296 (A.drop 0)*2 ^ s+oF A 0 (2 ^ (32-s)):=by
    have:=hup 0;rw[Zm,Zm] at this;rw[vl,this,dR hu];simp[oF]
   refine Z ?_;exact .mk (0,(u*2 ^ s)%4294967296::R) [(0,0)]
    ⟨by simp only;omega,by simp only[Zc];omega,λz hz=>by
      rcases Y6.1 hz with rfl|hz
      .exact hdl
      .exact h3 z hz,hV⟩
    (aK _ rfl ⟨aI 0 (aM _),trivial⟩
     ⟨aF,⟨_,rfl,.slE rfl rfl⟩,⟨_,rfl,.w64 rfl ⟨by simp only;omega,by simp only;omega⟩⟩,trivial⟩) (by simp only;omega)
 .have hm0:m=0:=by simp at hb;omega
  subst hm0;have h4:vl 4294967296 R=x*2 ^ s:=by rw[h4,ZU,hAv];simp[oF]
  have hR:R=eZ (dg 4294967296 (x*2 ^ s)) (a.length+1):=by
   have:=nI hB R h3;rw[h2,Nat.sub_zero,h4] at this;exact this
  refine Z ?_;exact bM (n':=1) (m':=[(0,.row 157 1 (bB (eZ (dg 4294967296 (x*2 ^ s)) (a.length+1))))]) [(0,0)] rfl ⟨⟨0,_,rfl,rfl,.eq (aM _) (by rw[<-hR];simp)⟩,trivial⟩ (.slE rfl rfl) ⟨rfl,rfl,rfl⟩
theorem rC{L:List Nat}{n i u:Nat}(h:L[i]? = some u)(hi:i<n):(L.take n)[i]? = some u:=by rw[Za,Y4 hi];exact h
theorem QO{S L:List Nat}{i u:Nat}(h:L[i]? = some u)(hi:S.length<=i):(S++L.drop S.length)[i]? = some u:=by
 rw[ZM hi,ZS,show S.length+(i-S.length)=i by omega];exact h
theorem ON{S T:List Nat}{d e:Nat}:((S++[d])++T).set S.length e=(S++[e])++T:=by
 rw[List.append_assoc,Zw _ _ (Y8 _),aAe];simp
theorem OQ{S T:List Nat}{d:Nat}:((S++[d])++T)[S.length]? = some d:=by
 rw[List.append_assoc,ZM (Y8 _),aAe];rfl
theorem U7{L:List Nat}{i u:Nat}(h:L[i]? = some u)(hu:u<4294967296):vl 4294967296 (L.drop i)%4294967296=u:=by
 rw[dR h,aBt,Zs hu]
theorem OF(L:List Nat)(n s:Nat)(hs:s<32)(hn:n<=L.length)(hl:L.length<=1000001)(hL:∀d∈L,d<4294967296):aJ prog [] 182 [.sl 0 0 n,.int .i64 s] [(0,.row 157 1 (bB L))] 1
  λr m k=>r = .sl 0 0 n/\m=[(0,.row 157 1 (bB (eZ (dg 4294967296 (vl 4294967296 (L.take n)/2 ^ s)) n++L.drop n)))]/\k=1:=by
 have hB:(2:Nat)<=4294967296:=by decide
 have hpq:2 ^ s*2 ^ (32-s)=4294967296:=Aw om;have hqp:2 ^ (32-s)*2 ^ s=4294967296:=by rw[ZX];exact hpq
 have hp:0<2 ^ s:=aAN (by decide);have hq:0<2 ^ (32-s):=aAN (by decide);have hAl:(L.take n).length=n:=by rw[ZO];omega
 refine aG bJ func182 rfl ?_;refine Z ?_;refine bI.at bJ (λS:List Nat=>S.length<=n/\(∀d∈S,d<4294967296)/\vl 4294967296 S+4294967296 ^ S.length*(vl 4294967296 ((L.take n).drop S.length)/2 ^ s)=vl 4294967296 (L.take n)/2 ^ s)
  (λS=>⟨[(0,.sl 0 0 n),(1,.int .i64 s),(7,.int .i64 n),(8,.int .i64 S.length)],[(0,.row 157 1 (bB (S++L.drop S.length)))],1,43⟩)
  (λS=>n-S.length) [] [(0,0)] ⟨sq,sq,by simp[vl]⟩
  (aK _ rfl ⟨⟨0,_,rfl,rfl,.eq (aM _) sq⟩,trivial⟩
   ⟨⟨_,rfl,.slE rfl rfl⟩,aF,aF,aF,trivial⟩) ?_
 rintro S ⟨h1,h2,h3⟩;refine Z ?_;refine aL (λhb=>?_) (λhb=>?_)
 .have hlt:S.length<n:=su hb
  obtain⟨u,hu⟩:∃u,L[S.length]? = some u:=⟨_,Yw om⟩
  have hul:=hL _ (Y2 hu);have g1:=mN (HN (s:=S) hu);have bi:=lM (i:=S.length) (n:=n) hlt;have e1:=S0 (x:=u) (s:=s) om;have hu2:=rC hu hlt;have e2:IntKind.i64.wrap ((S.length:Int)+1)=((S.length+1:Nat):Int):=by rw[bS oq];omega
  have hrow:(bB (S++L.drop S.length)).set (0+((S.length:Nat):Int).toNat) (.int .u32 ((u:Int).fdiv (2 ^ min ((s:Nat):Int).toNat IntKind.u32.bits)))=bB ((S++[u/2 ^ s])++L.drop (S++[u/2 ^ s]).length):=by
   rw[e1,Yy,ZP,iA,F8 hu]
  have hdrop:∀Y y,vl 4294967296 ((L.take n).drop (S.length+1))=Y->Y%4294967296=y->vl 4294967296 ((L.take n).drop S.length)/2 ^ s=(u/2 ^ s+(y*2 ^ (32-s))%4294967296)+4294967296*(Y/2 ^ s):=λY y hY hy=>by
   rw[dR hu2,hY];exact Ms hpq hp hy
  have hnext:∀Y y,vl 4294967296 ((L.take n).drop (S.length+1))=Y->Y%4294967296=y->vl 4294967296 (S++[u/2 ^ s+(y*2 ^ (32-s))%4294967296])+4294967296 ^ (S.length+1)*(Y/2 ^ s)=vl 4294967296 (L.take n)/2 ^ s:=λY y hY hy=>by
   rw[<-h3,hdrop Y y hY hy];generalize u/2 ^ s+(y*2 ^ (32-s))%4294967296=e;rw[sK,Nat.pow_succ,Nat.mul_add (4294967296 ^ S.length),<-Nat.mul_assoc (4294967296 ^ S.length) 4294967296,Nat.add_assoc]
  have hle:(S++[u/2 ^ s]).length=S.length+1:=sq
  refine Rt ?_;repeat((first|refine aO bi ?_|refine aC g1 ?_);refine Rt ?_)
  rw[hrow,e2];refine aL (λhc=>?_) (λhc=>?_)
  .rw[hc];have hi1:S.length+1<n:=by simp at hc;omega
   obtain⟨w,hw⟩:∃w,L[S.length+1]? = some w:=⟨_,Yw om⟩
   have hwl:=hL _ (Y2 hw);have hY:=U7 (rC hw hi1) hwl;refine Z ?_;refine aL (λhc2=>?_) (λhc2=>?_)
   .have hs0:0<s:=by simp at hc2;omega
    have e3:=TV (s:=s) om;have e4:=Wx (x:=w) (s:=32-s) om;obtain⟨d1,d2,d3⟩:=JK (x:=w) (y:=u) hqp hq hp hul;have hz:=Zx (w*2 ^ (32-s)) (show 0<4294967296 by decide);have hu3:u/2 ^ s<4294967296:=aAf (aAS _ _) hul;have e5:bits .or .u32 ((u/2 ^ s:Nat):Int) (((w*2 ^ (32-s))%4294967296:Nat):Int)=((u/2 ^ s+(w*2 ^ (32-s))%4294967296:Nat):Int):=by
     rw[Fg hu3 hz,Nat.or_comm,Ju d2 d3,aBE]
    have hdl:u/2 ^ s+(w*2 ^ (32-s))%4294967296<4294967296:=om;have hV:=hnext _ w rfl hY;have g2:(bB ((S++[u/2 ^ s])++L.drop (S++[u/2 ^ s]).length))[0+((S.length:Nat):Int).toNat]? = some (.int .u32 ((u/2 ^ s:Nat):Int)):=mN OQ;have g3:(bB ((S++[u/2 ^ s])++L.drop (S++[u/2 ^ s]).length))[0+((S.length+1:Nat):Int).toNat]? = some (.int .u32 (w:Int)):=mN (QO hw (by rw[hle];omega));have bi2:=lM (i:=S.length+1) (n:=n) hi1;refine Z ?_;repeat((first|rw[e2]|refine aO bi ?_|refine aC g2 ?_|refine aO bi2 ?_|refine aC g3 ?_|refine aY ?_);refine Z ?_)
    rw[e3];refine Rt ?_;repeat((first|rw[e2]|refine aO bi ?_|refine aC g2 ?_);refine Rt ?_)
    exact .mk (S++[u/2 ^ s+(w*2 ^ (32-s))%4294967296]) [(0,0)] ⟨by simp;omega,gO h2 hdl,by simp only[ZA,ZZ];exact hV⟩
     (aK _ rfl ⟨⟨0,_,rfl,rfl,.eq (aM _) (by rw[e4,e5,Yy,ZP,iA,ON,ZA,ZA];rfl)⟩,trivial⟩
      ⟨⟨_,rfl,.slE rfl rfl⟩,aF,aF,⟨_,rfl,.int sq⟩,trivial⟩) (by simp;omega)
   .have hs0:s=0:=by simp at hc2;omega
    subst hs0;have hu3:u/2 ^ 0<4294967296:=aAf (aAS _ _) hul;have hdl:=hu3;have hz:(w*2 ^ (32-0))%4294967296=0:=by rw[show (2:Nat) ^ (32-0)=4294967296 by decide];exact Nat.mul_mod_left _ _
    have hV:=hnext _ w rfl hY;rw[hz,Zm] at hV;refine Z ?_;exact .mk (S++[u/2 ^ 0]) [(0,0)] ⟨by simp;omega,gO h2 hdl,by simp only[ZA,ZZ];exact hV⟩
     (aK _ rfl ⟨aI 0 (aM _),trivial⟩
      ⟨⟨_,rfl,.slE rfl rfl⟩,aF,aF,⟨_,rfl,.w64 sq ⟨by simp;omega,by simp;omega⟩⟩,trivial⟩) (by simp;omega)
  .rw[hc];have hi1:S.length+1=n:=by simp at hc;omega
   have hu3:u/2 ^ s<4294967296:=aAf (aAS _ _) hul;have hdl:=hu3;have hY:vl 4294967296 ((L.take n).drop (S.length+1))=0:=by rw[Zy om];rfl
   have hV:=hnext 0 0 hY rfl;rw[aBV,Nat.zero_mod,Zm,<-hY] at hV;refine Z ?_;exact .mk (S++[u/2 ^ s]) [(0,0)] ⟨by simp;omega,gO h2 hdl,by simp only[ZA,ZZ];exact hV⟩
    (aK _ rfl ⟨aI 0 (aM _),trivial⟩
     ⟨⟨_,rfl,.slE rfl rfl⟩,aF,aF,⟨_,rfl,.w64 sq ⟨by simp;omega,by simp;omega⟩⟩,trivial⟩) (by simp;omega)
 .have hi:S.length=n:=by simp at hb;omega
  rw[hi,Zy om] at h3;have h3:vl 4294967296 S=vl 4294967296 (L.take n)/2 ^ s:=by rw[<-h3];simp[vl]
  have hR:S=eZ (dg 4294967296 (vl 4294967296 (L.take n)/2 ^ s)) n:=by
   have:=nI hB S h2;rw[h3,hi] at this;exact this
  refine Z ?_;exact bM (n':=1) (m':=[(0,.row 157 1 (bB (eZ (dg 4294967296 (vl 4294967296 (L.take n)/2 ^ s)) n++L.drop n)))]) [(0,0)] rfl ⟨⟨0,_,rfl,rfl,.eq (aM _) (by rw[<-hR,hi])⟩,trivial⟩ (.slE rfl rfl) ⟨rfl,rfl,rfl⟩
theorem Aa{x k:Nat}(h:0<x/2 ^ k):Nat.log2 x=Nat.log2 (x/2 ^ k)+k:=by
 have hx:x≠0:=λe=>by rw[e] at h;simp at h
 have hy:x/2 ^ k≠0:=om;obtain⟨h1,h2⟩:=(aCc hy).1 rfl;generalize Nat.log2 (x/2 ^ k)=m at *;rw[aCc hx];have hp:0<2 ^ k:=aAN (by decide);constructor
 .rw[Nat.pow_add];exact Zj (ZF _ h1) (Nat.div_mul_le_self x (2 ^ k))
 .rw[show m+k+1=(m+1)+k by omega,Nat.pow_add];exact(aAE hp).1 h2
theorem GD{s:List UInt8}(h:(List.range 256).all (λy=>s[y]? == some (UInt8.ofNat (if y=0 then 0 else Nat.log2 y+1)))=true){y:Nat}(h0:0<y)(hy:y<256):s[((y:Nat):Int).toNat]? = some (UInt8.ofNat (Nat.log2 y+1)):=by
 have:=Z3.1 h y (aAL.2 hy);rw[Yz om] at this;rw[Yy];exact eq_of_beq this
theorem Ug(x:Nat)(h0:0<x)(hx:x<4294967296):aX prog [] 229 [.int .u32 x] (.int .i64 ((Nat.log2 x+1:Nat):Int)):=by
 have e16:∀y:Nat,((y:Int).fdiv (2 ^ min (Int.toNat 16) IntKind.u32.bits))=((y/65536:Nat):Int):=λy=>S0 (s:=16) (by decide)
 have e8:∀y:Nat,((y:Int).fdiv (2 ^ min (Int.toNat 8) IntKind.u32.bits))=((y/256:Nat):Int):=λy=>S0 (s:=8) (by decide)
 have eu:∀y:Nat,y<256->IntKind.u8.wrap (y:Int)=(y:Int):=λy hy=>by rw[Ha];omega
 have el:∀y:Nat,0<y->y<256->Nat.log2 y<8:=λy h1 h2=>(Nat.log2_lt om).2 om
 have et:∀y:Nat,0<y->y<256->((UInt8.ofNat (Nat.log2 y+1)).toNat:Int)=((Nat.log2 y+1:Nat):Int):=λy h1 h2=>by
  have:=el y h1 h2;rw[UInt8.toNat_ofNat'];omega
 have ei:∀z:Nat,z<256->IntKind.i64.wrap (z:Int)=(z:Int):=λz hz=>bS oq
 refine aG bJ func229 rfl ?_;refine Z ?_;refine aL (λhb=>?_) (λhb=>?_)
 .have hb:65536<=x:=by simp at hb;omega
  refine Z ?_;rw[e16];refine aL (λhc=>?_) (λhc=>?_)
  .have hc:256<=x/65536:=by simp at hc;omega
   have hy0:0<x/65536/256:=om;have hy:x/65536/256<256:=om;have h1:Nat.log2 x=Nat.log2 (x/65536)+16:=Aa (k:=16) om;have h2:Nat.log2 (x/65536)=Nat.log2 (x/65536/256)+8:=Aa (k:=8) om;have h3:=el _ hy0 hy;refine Z ?_;rw[e8];rw[eu _ hy];refine Z ?_;refine aC (GD (by decide +kernel) hy0 hy) ?_;refine Z ?_;exact cW (.int (by rw[et _ hy0 hy,ei _ om,show IntKind.i64.wrap (16+8)=24 by decide,bS oq];omega)) ⟨rfl,rfl,rfl⟩
  .have hc:x/65536<256:=by simp at hc;omega
   have hy0:0<x/65536:=om;have hy:x/65536<256:=om;have h1:Nat.log2 x=Nat.log2 (x/65536)+16:=Aa (k:=16) om;have h3:=el _ hy0 hy;refine Z ?_;rw[eu _ hy];refine Z ?_;refine aC (GD (by decide +kernel) hy0 hy) ?_;refine Z ?_;exact cW (.int (by rw[et _ hy0 hy,ei _ om,bS oq];omega)) ⟨rfl,rfl,rfl⟩
 .have hb:x<65536:=by simp at hb;omega
  refine Z ?_;refine aL (λhc=>?_) (λhc=>?_)
  .have hc:256<=x:=by simp at hc;omega
   have hy0:0<x/256:=om;have hy:x/256<256:=om;have h2:Nat.log2 x=Nat.log2 (x/256)+8:=Aa (k:=8) om;have h3:=el _ hy0 hy;refine Z ?_;rw[e8];rw[eu _ hy];refine Z ?_;refine aC (GD (by decide +kernel) hy0 hy) ?_;refine Z ?_;exact cW (.int (by rw[et _ hy0 hy,ei _ om,show IntKind.i64.wrap (0+8)=8 by decide,bS oq];omega)) ⟨rfl,rfl,rfl⟩
  .have hc:x<256:=by simp at hc;omega
   have hy0:0<x:=om;have hy:x<256:=om;have h3:=el _ hy0 hy;refine Z ?_;rw[eu _ hy];refine Z ?_;refine aC (GD (by decide +kernel) hy0 hy) ?_;refine Z ?_;exact cW (.int (by rw[et _ hy0 hy,ei _ om,bS oq];omega)) ⟨rfl,rfl,rfl⟩
theorem Yq(x:Nat)(h0:0<x)(hx:x<4294967296):aX prog [] 178 [.int .u32 x] (.int .i64 ((31-Nat.log2 x:Nat):Int)):=by
 have hl:=Ug x h0 hx;have h1:Nat.log2 x<32:=(Nat.log2_lt om).2 om;refine aG bJ func178 rfl ?_;refine Z ?_;refine hl.go ?_ (.cons nn .nil) nn;refine Z ?_;exact cW (.int (by rw[bS oq];omega)) ⟨rfl,rfl,rfl⟩
theorem S8{x:Nat}(h0:0<x)(hx:x<4294967296):31-Nat.log2 x<32/\2147483648<=x*2 ^ (31-Nat.log2 x)/\x*2 ^ (31-Nat.log2 x)<4294967296:=by
 have h1:Nat.log2 x<32:=(Nat.log2_lt om).2 om;obtain⟨h2,h3⟩:=(aCc (by omega:x≠0)).1 rfl;generalize Nat.log2 x=m at *;refine⟨om, ?_, ?_⟩
 .have:=ZF (2 ^ (31-m)) h2;rw[<-Nat.pow_add,show m+(31-m)=31 by omega] at this;exact this
 .have:=aAW h3 (show 0<2 ^ (31-m) from aAN (by decide));rw[<-Nat.pow_add,show m+1+(31-m)=32 by omega] at this;exact this
def XT(c q b j n:Nat)(L:List Nat):aQ:=[(0,.row 209 1 [.int .u64 (c:Int)]),(1,.row 209 1 [.int .u64 (q:Int)]),(2,.row 209 1 [.int .u64 (b:Int)]),(3,.row 30 1 [.sl 4 j n]),(4,.row 157 1 (bB L))]
def Xe(c j n:Nat)(L:List Nat):aQ:=[(0,.row 209 1 [.int .u64 (c:Int)]),(1,.row 30 1 [.sl 2 j n]),(2,.row 157 1 (bB L))]
theorem cV{mem:aQ}{J:List (Nat × Nat)}{i j o n m:Nat}(h:lk J i=some j)(e:n=m):tO mem J [.sl i o n] [.sl j o m]:=.cons (.one rfl rfl (.slE h e)) .nil
theorem Vy{l:List Nat}{i j d:Nat}(h:l[j+i]? = some d):(bB l)[j+((i:Nat):Int).toNat]? = some (.int .u32 (d:Int)):=by rw[Yy,IK,h];rfl
theorem UM{l:List Nat}{i j d:Nat}:(bB l).set (j+((i:Nat):Int).toNat) (.int .u32 (d:Int))=bB (l.set (j+i) d):=by rw[Yy,iA]
theorem Fc(L:List Nat)(i j x y q c b n:Nat)(hi:i<n)(hx0:L[j+i]? = some x)(hx:x<4294967296)(hy:y<4294967296)(hq:q<4294967296)(hc:c<4294967296)(hb:b<=1)(hnn:n<=1000001) :
  aJ prog [] 230 [.int .i64 i,.int .u32 y,.ptr 0 0 0,.ptr 1 0 0,.ptr 2 0 0,.ptr 3 0 0] (XT c q b j n L) 5
  λr m k=>r = .tup []/\m=XT ((c+q*y)/4294967296) q (if (c+q*y)%4294967296+b>x then 1 else 0) j n (L.set (j+i) (if (c+q*y)%4294967296+b>x then x+4294967296-((c+q*y)%4294967296+b) else x-((c+q*y)%4294967296+b)))/\k=5:=by
 obtain⟨q1,q2,q3,q4⟩:=HO hq hy (show 0<4294967296 by decide) hc;have e1:IntKind.u64.wrap (y:Int)=(y:Int):=iD om;have e2:IntKind.u64.wrap ((q:Int)*(y:Int))=((q*y:Nat):Int):=by rw[<-Int.natCast_mul];exact iD om
 have e3:IntKind.u64.wrap ((c:Int)+((q*y:Nat):Int))=((c+q*y:Nat):Int):=by rw[<-Int.natCast_add];exact iD om
 have e4:bits .and .u64 ((c+q*y:Nat):Int) 4294967295=(((c+q*y)%4294967296:Nat):Int):=Go.Ax.bits_mask om;have hlo:(c+q*y)%4294967296<4294967296:=Zx _ (by decide);have e5:IntKind.u64.wrap ((((c+q*y)%4294967296:Nat):Int)+(b:Int))=(((c+q*y)%4294967296+b:Nat):Int):=by rw[<-Int.natCast_add];exact iD om
 have e6:IntKind.u64.wrap (x:Int)=(x:Int):=iD om;have g:=Vy hx0;have bi:=lM hi;have hW:=Wa hx hlo hb;have hsh:(((c+q*y:Nat):Int).fdiv (2 ^ min (Int.toNat 32) IntKind.u64.bits))=(((c+q*y)/4294967296:Nat):Int):=Bh;refine aG bJ func230 rfl ?_;refine Z ?_;rw[e1,e2,e3,e4,e5,hsh];generalize (c+q*y)%4294967296=lo at *;generalize (c+q*y)/4294967296=ca at *;repeat((first|refine aO bi ?_|refine aC g ?_|refine aY ?_);refine Z ?_)
 rw[e6];refine aL (λhc=>?_) (λhc=>?_)
 all_goals
  refine Rt ?_;repeat((first|refine aO bi ?_|refine aC g ?_);refine Rt ?_)
 .have hc:lo+b>x:=by simp at hc;omega
  rw[Y4 hc] at hW;rw[Y4 hc,Y4 hc];exact bM (n':=5) (m':=XT ca q 1 j n (L.set (j+i) (x+4294967296-(lo+b)))) [(0,0),(1,1),(2,2),(3,3),(4,4)] rfl ⟨aI 0 (kP _ _),aI 1 (kP _ _),aI 2 (kP _ _),⟨3,_,rfl,rfl,cV rfl rfl⟩,⟨4,_,rfl,rfl,.eq (aM _) (by rw[hW,UM])⟩,trivial⟩ (.same _ nn) ⟨rfl,rfl,rfl⟩
 .have hc:¬lo+b>x:=by simp at hc;omega
  rw[Yz hc] at hW;rw[Yz hc,Yz hc];exact bM (n':=5) (m':=XT ca q 0 j n (L.set (j+i) (x-(lo+b)))) [(0,0),(1,1),(2,2),(3,3),(4,4)] rfl ⟨aI 0 (kP _ _),aI 1 (kP _ _),aI 2 (kP _ _),⟨3,_,rfl,rfl,cV rfl rfl⟩,⟨4,_,rfl,rfl,.eq (aM _) (by rw[hW,UM])⟩,trivial⟩ (.same _ nn) ⟨rfl,rfl,rfl⟩
theorem Fw(L:List Nat)(i j x y c n:Nat)(hi:i<n)(hx0:L[j+i]? = some x)(hx:x<4294967296)(hy:y<4294967296)(hc:c<4294967296)(hnn:n<=1000001) :
  aJ prog [] 231 [.int .i64 i,.int .u32 y,.ptr 0 0 0,.ptr 1 0 0] (Xe c j n L) 3
  λr m k=>r = .tup []/\m=Xe ((c+(x+y))/4294967296) j n (L.set (j+i) ((c+(x+y))%4294967296))/\k=3:=by
 have e1:IntKind.u64.wrap (x:Int)=(x:Int):=iD om;have e2:IntKind.u64.wrap (y:Int)=(y:Int):=iD om;have e3:IntKind.u64.wrap ((x:Int)+(y:Int))=((x+y:Nat):Int):=by rw[<-Int.natCast_add];exact iD om
 have e4:IntKind.u64.wrap ((c:Int)+((x+y:Nat):Int))=((c+(x+y):Nat):Int):=by rw[<-Int.natCast_add];exact iD om
 have g:=Vy hx0;have bi:=lM hi;refine aG bJ func231 rfl ?_;refine Z ?_;repeat((first|refine aO bi ?_|refine aC g ?_|refine aY ?_);refine Z ?_)
 rw[e1,e2,e3,e4];refine Rs ?_;repeat((first|refine aO bi ?_|refine aC g ?_);refine Rt ?_)
 exact bM (n':=3) (m':=Xe ((c+(x+y))/4294967296) j n (L.set (j+i) ((c+(x+y))%4294967296))) [(0,0),(1,1),(2,2)] rfl ⟨⟨0,_,rfl,rfl,.cons (.one rfl rfl (.int Bh)) .nil⟩,⟨1,_,rfl,rfl,cV rfl rfl⟩,⟨2,_,rfl,rfl,.eq (aM _) (by rw[Uy,UM])⟩,trivial⟩ (.same _ nn) ⟨rfl,rfl,rfl⟩
def Xt(c q b j n:Nat)(L:List Nat):aQ:=[(1,.row 209 1 [.int .u64 (c:Int)]),(2,.row 209 1 [.int .u64 (q:Int)]),(3,.row 209 1 [.int .u64 (b:Int)]),(4,.row 30 1 [.sl 0 j n]),(0,.row 157 1 (bB L))]
def X0(c j n:Nat)(L:List Nat):aQ:=[(1,.row 209 1 [.int .u64 (c:Int)]),(2,.row 30 1 [.sl 0 j n]),(0,.row 157 1 (bB L))]
def fW(L S:List Nat)(j:Nat):List Nat:=L.take j++(S++L.drop (j+S.length))
theorem I2{L:List Nat}{j:Nat}:fW L [] j=L:=by simp[fW]
theorem AM{L S:List Nat}{j i u:Nat}(h:L[j+i]? = some u)(hi:S.length<=i):(fW L S j)[j+i]? = some u:=by
 have hj:=(Y0.1 h).1;have hl:(L.take j).length=j:=by rw[ZO];omega
 unfold fW;rw[ZM om,hl,ZM om,ZS,show j+S.length+(j+i-j-S.length)=j+i by omega];exact h
theorem zC{L S:List Nat}{j u d:Nat}(h:L[j+S.length]? = some u):(fW L S j).set (j+S.length) d=fW L (S++[d]) j:=by
 obtain⟨h1,h2⟩:=Y0.1 h;have hl:(L.take j).length=j:=by rw[ZO];omega
 unfold fW;rw[Zw _ _ om,hl,show j+S.length-j=S.length by omega,Zw _ _ (Y8 _),aAe,List.drop_eq_getElem_cons h1,aAy,ZA,ZZ];simp[Nat.add_assoc]
theorem Hd{L S:List Nat}{j:Nat}(h:j+S.length<=L.length):(fW L S j).length=L.length:=by
 simp[fW];omega
theorem RH{L:List Nat}{j n i u:Nat}(h:((L.drop j).take n)[i]? = some u):L[j+i]? = some u:=by
 rw[Za] at h;split at h
 .rw[ZS] at h;exact h
 .cases h
theorem I4{L S:List Nat}{j:Nat}(hL:∀d∈L,d<4294967296)(hS:∀d∈S,d<4294967296):∀d∈fW L S j,d<4294967296:=λd hd=>by
 unfold fW at hd;rcases ZI.1 hd with hd|hd
 .exact hL d (Zg hd)
 .rcases ZI.1 hd with hd|hd
  .exact hS d hd
  .exact hL d (Zr hd)
theorem Nk{L S T:List Nat}{j:Nat}(h:S.length=T.length)(hj:j+S.length<=L.length):fW (fW L S j) T j=fW L T j:=by
 have hl:(L.take j).length=j:=by rw[ZO];omega
 unfold fW;rw[aAb om,Y9 om,List.drop_append,Zy om,hl,Zi,show j+T.length-j=S.length by omega,List.drop_append,Z8,aAe,ZU,Zi,h]
theorem NX(L:List Nat)(j n q V:Nat)(hn:(dg 4294967296 V).length<=n)(bl:List Nat)(hbl:bl.length=n)(hbd:∀d∈bl,d<4294967296)(hbv:vl 4294967296 bl=V)(hL:∀d∈L,d<4294967296)(hj:j+(n+1)<=L.length)(hll:L.length<=1000001)(hq:q<4294967296)
  (U:Nat) (hU:U=vl 4294967296 ((L.drop j).take (n+1))) (hqv:q*V<=U+V) :
  aJ prog [] 181 [.sl 0 j (n+1),.il 1 (bB bl),.int .u64 q] [(0,.row 157 1 (bB L))] 1
  λr m k=>r = .bool (decide (U<q*V))/\m=[(0,.row 157 1 (bB (fW L (eZ (dg 4294967296 (if U<q*V then U+V-q*V else U-q*V)) (n+1)) j)))]/\k=1:=by
 have hB:(2:Nat)<=4294967296:=by decide
 obtain⟨A,hA⟩:∃A,A=(L.drop j).take (n+1):=⟨_,rfl⟩
 rw[<-hA] at hU;have hAl:A.length=n+1:=by rw[hA,ZO,aAG];omega
 have hAd:∀d∈A,d<4294967296:=λd hd=>hL d (Zr (Zg (by rw[hA] at hd;exact hd)))
 have hAg:∀i u,A[i]? = some u->L[j+i]? = some u:=λi u h=>RH (by rw[<-hA];exact h)
 clear hA;refine aG bJ func181 rfl ?_;refine Rt ?_;refine bI.at bJ (λp:List Nat × Nat × Nat=>p.1.length<=n/\(∀d∈p.1,d<4294967296)/\p.2.1<4294967296/\p.2.2<=1/\vl 4294967296 p.1+q*vl 4294967296 (bl.take p.1.length)=vl 4294967296 (A.take p.1.length)+4294967296 ^ p.1.length*(p.2.1+p.2.2))
  (λp=>⟨[(1,.il 1 (bB bl)),(3,.ptr 4 0 0),(7,.ptr 1 0 0),(8,.ptr 3 0 0),(9,.fn (.func 230) [] [.ptr 1 0 0,.ptr 2 0 0,.ptr 3 0 0,.ptr 4 0 0]),(16,.il 1 (bB bl)),(17,.int .i64 n),(18,.int .i64 p.1.length)],Xt p.2.1 q p.2.2 j (n+1) (fW L p.1 j),5,51⟩)
  (λp=>n-p.1.length) ([],0,0) [(3,1),(2,2),(4,3),(1,4),(0,0)] ⟨sq,sq,sq,sq,by simp[vl]⟩
  (aK _ rfl ⟨aI 3 (kP _ _),aI 2 (kP _ _),aI 4 (kP _ _),⟨1,_,rfl,rfl,cV rfl rfl⟩,⟨0,_,rfl,rfl,.eq (aM _) (by rw[I2])⟩,trivial⟩
   ⟨aP (.il' (aM _)),aN,aN,aN,⟨_,rfl,.fn _ _ _ _ _ rfl rfl sq (g6.cons (.ptr 3 1 0 0 rfl) (.cons (.ptr 2 2 0 0 rfl) (.cons (.ptr 4 3 0 0 rfl) (.cons (.ptr 1 4 0 0 rfl) .nil)))).2⟩,aP (.il' (aM _)),⟨_,rfl,.int (by rw[aU,hbl])⟩,aF,trivial⟩) ?_
 rintro⟨S,c,b⟩ ⟨h1,h2,h3,h4,h5⟩;simp only at h1 h2 h3 h4 h5 |-;refine Z ?_;refine aL (λhb=>?_) (λhb=>?_)
 .have hlt:S.length<n:=su hb
  obtain⟨u,hu⟩:∃u,A[S.length]? = some u:=⟨_,Yw om⟩
  obtain⟨v,hv⟩:∃v,bl[S.length]? = some v:=⟨_,Yw om⟩
  have hul:=hAd _ (Y2 hu);have hvl:=hbd _ (Y2 hv);have g2:=zY hv;have hLu:=hAg _ _ hu;have hst:=Fc (fW L S j) S.length j u v q c b (n+1) om (AM hLu (Y8 _)) hul hvl hq h3 h4 om;rw[zC hLu] at hst;have hstep:=Fe (B:=4294967296) hB (s:=S) (x:=u) (y:=v) (q:=q) (c:=c) (b:=b) rfl h5 hul h4;obtain⟨-,-,-,hcl⟩:=HO hq hvl (show 0<4294967296 by decide) h3;rw[Zm] at hcl;have hdg:=wA (B:=4294967296) (x:=u) (y:=(c+q*v)%4294967296) (b:=b) hul (Zx _ (by decide)) h4;generalize (if (c+q*v)%4294967296+b>u then u+4294967296-((c+q*v)%4294967296+b) else u-((c+q*v)%4294967296+b))=d at hst hstep hdg;have hbo:(if (c+q*v)%4294967296+b>u then 1 else 0)<=1:=by split<;>omega
  generalize (if (c+q*v)%4294967296+b>u then 1 else 0)=bo at hst hstep hbo;generalize (c+q*v)/4294967296=ca at hst hstep hcl;refine Z ?_;repeat((first|refine aC g2 ?_|refine aY ?_);refine Z ?_)
  refine aJ.useN bJ [(1,0),(2,1),(3,2),(4,3),(0,4)] hst rfl (.s (.s (.cons (.ptr 1 0 0 0 rfl) (.cons (.ptr 2 1 0 0 rfl) (.cons (.ptr 3 2 0 0 rfl) (.cons (.ptr 4 3 0 0 rfl) .nil)))))) ⟨aI 1 (kP _ _),aI 2 (kP _ _),aI 3 (kP _ _),⟨4,_,rfl,rfl,cV rfl rfl⟩,aI 0 (aM _),trivial⟩ rfl ?_;rintro r' m' n' ⟨rfl,rfl,rfl⟩;refine⟨[(0,1),(1,2),(2,3),(3,4),(4,0)],_,Xt ca q bo j (n+1) (fW L (S++[d]) j),5,.same _ nn,⟨aI 0 (kP _ _),aI 1 (kP _ _),aI 2 (kP _ _),⟨3,_,rfl,rfl,cV rfl rfl⟩,aI 4 (aM _),trivial⟩,rfl, ?_⟩;refine Z ?_;exact .mk (S++[d],ca,bo) [(0,0),(1,1),(2,2),(3,3),(4,4)] ⟨by simp;omega,gO h2 hdg,hcl,hbo,by
     simp only[ZA,ZZ];rw[jE hu,jE hv,Nat.mul_add q,aAO q];exact hstep⟩
   (aK _ rfl ⟨aI 1 (kP _ _),aI 2 (kP _ _),aI 3 (kP _ _),⟨4,_,rfl,rfl,cV rfl rfl⟩,aI 0 (aM _),trivial⟩
    ⟨aP (.il' (aM _)),aN,aN,aN,⟨_,rfl,(.fn _ _ _ _ _ rfl rfl sq (g6.cons (.ptr 1 1 0 0 rfl) (.cons (.ptr 2 2 0 0 rfl) (.cons (.ptr 3 3 0 0 rfl) (.cons (.ptr 4 4 0 0 rfl) .nil)))).2)⟩,aP (.il' (aM _)),aF,⟨_,rfl,.w64 sq ⟨by simp;omega,by simp;omega⟩⟩,trivial⟩) (by simp;omega)
 .have hlt:S.length=n:=by simp at hb;omega
  rw[hlt,<-hbl,ZJ,hbv] at h5;obtain⟨u,hu⟩:∃u,A[S.length]? = some u:=⟨_,Yw om⟩
  have hul:=hAd _ (Y2 hu);have hLu:=hAg _ _ hu;have hst:=Fc (fW L S j) S.length j u 0 q c b (n+1) om (AM hLu (Y8 _)) hul (by decide) hq h3 h4 om;rw[zC hLu] at hst;have hstep:=Fe (B:=4294967296) hB (s:=S) (X:=q*V) (A:=vl 4294967296 (A.take bl.length)) (x:=u) (y:=0) (q:=q) (c:=c) (b:=b) (i:=S.length) rfl (by rw[hlt,<-hbl];exact h5) hul h4;simp only[aAx,Zm,Zs h3,aAj h3] at hst hstep;have hdg:=wA (B:=4294967296) (x:=u) (y:=c) (b:=b) hul h3 h4;generalize (if c+b>u then u+4294967296-(c+b) else u-(c+b))=d at hst hstep hdg;have hbo:(if c+b>u then 1 else 0)<=1:=by split<;>omega
  generalize (if c+b>u then 1 else 0)=bo at hst hstep hbo;have hSd:(S++[d]).length=n+1:=by simp;omega
  have hUt:vl 4294967296 (A.take bl.length)+4294967296 ^ S.length*u=U:=by
   rw[hbl,<-hlt,<-jE hu,hlt,hU,Y9 om]
  rw[hUt,ZP] at hstep;have hlt2:=vS hB (S++[d]) (gO h2 hdg);rw[hSd] at hlt2;rw[hlt] at hstep hst;have hall:=gO h2 hdg;generalize S++[d]=S2 at *;refine Z ?_;rw[aU,hbl];refine aJ.useN bJ [(1,0),(2,1),(3,2),(4,3),(0,4)] hst rfl (.s (.s (.cons (.ptr 1 0 0 0 rfl) (.cons (.ptr 2 1 0 0 rfl) (.cons (.ptr 3 2 0 0 rfl) (.cons (.ptr 4 3 0 0 rfl) .nil)))))) ⟨aI 1 (kP _ _),aI 2 (kP _ _),aI 3 (kP _ _),⟨4,_,rfl,rfl,cV rfl rfl⟩,aI 0 (aM _),trivial⟩ rfl ?_;rintro r' m' n' ⟨rfl,rfl,rfl⟩;refine⟨[(0,1),(1,2),(2,3),(3,4),(4,0)],_,Xt 0 q bo j (n+1) (fW L S2 j),5,.same _ nn,⟨aI 0 (kP _ _),aI 1 (kP _ _),aI 2 (kP _ _),⟨3,_,rfl,rfl,cV rfl rfl⟩,aI 4 (aM _),trivial⟩,rfl, ?_⟩;refine Z ?_;rcases(show bo=0\/bo=1 by omega) with rfl|rfl
  .have hge:¬U<q*V:=by rw[aAx] at hstep;omega
   have hS2:S2=eZ (dg 4294967296 (U-q*V)) (n+1):=by
    have:=nI hB S2 hall;rw[hSd,show vl 4294967296 S2=U-q*V by omega] at this;exact this
   refine Z ?_;exact bM (r':=.bool (decide (U<q*V))) (n':=1) (m':=[(0,.row 157 1 (bB (fW L (eZ (dg 4294967296 (if U<q*V then U+V-q*V else U-q*V)) (n+1)) j)))]) [(0,0)] rfl ⟨⟨0,_,rfl,rfl,.eq (aM _) (by rw[Yz hge,<-hS2])⟩,trivial⟩ (.bool (by rw[ZN hge])) ⟨rfl,rfl,rfl⟩
  .have hlt3:U<q*V:=by rw[aAA] at hstep;omega
   have hVlt:V<4294967296 ^ (n+1):=aAo (iC hB) (aAd (by decide) om);refine Rt ?_;refine bI.at bJ (λp:List Nat × Nat=>p.1.length<=n/\(∀d∈p.1,d<4294967296)/\p.2<=1/\vl 4294967296 p.1+4294967296 ^ p.1.length*p.2=vl 4294967296 (S2.take p.1.length)+vl 4294967296 (bl.take p.1.length))
    (λp=>⟨[(1,.il 1 (bB bl)),(12,.fn (.func 231) [] [.ptr 1 0 0,.ptr 2 0 0]),(35,.il 1 (bB bl)),(36,.int .i64 n),(37,.int .i64 p.1.length)],X0 p.2 j (n+1) (fW (fW L S2 j) p.1 j),3,51⟩)
    (λp=>n-p.1.length) ([],0) [(1,1),(4,2),(0,0)] ⟨sq,sq,sq,by simp[vl]⟩
    (aK _ rfl ⟨aI 1 (kP _ _),⟨4,_,rfl,rfl,cV rfl rfl⟩,⟨0,_,rfl,rfl,.eq (aM _) (by rw[I2])⟩,trivial⟩
     ⟨aP (.il' (aM _)),⟨_,rfl,(.fn _ _ _ _ _ rfl rfl sq (g6.cons (.ptr 1 1 0 0 rfl) (.cons (.ptr 4 2 0 0 rfl) .nil)).2)⟩,aP (.il' (aM _)),⟨_,rfl,.int (by rw[aU,hbl])⟩,aF,trivial⟩) ?_
   have hLS:=I4 (j:=j) hL hall;have hLl:(fW L S2 j).length=L.length:=Hd om;have hLg:∀i u,S2[i]? = some u->(fW L S2 j)[j+i]? = some u:=λi u h=>by
    have hi:=(Y0.1 h).1;have hl:(L.take j).length=j:=by rw[ZO];omega
    unfold fW;rw[ZM om,hl,aBd,ZK hi];exact h
   clear h1 h2 h3 h4 h5 hst hu hul hLu hUt hdg hbo hlt S c b u d hb;rintro⟨S,c⟩ ⟨h1,h2,h4,h5⟩;simp only at h1 h2 h4 h5 |-;refine Z ?_;refine aL (λhb=>?_) (λhb=>?_)
   .have hlt:S.length<n:=su hb
    obtain⟨u,hu⟩:∃u,S2[S.length]? = some u:=⟨_,Yw om⟩
    obtain⟨v,hv⟩:∃v,bl[S.length]? = some v:=⟨_,Yw om⟩
    have hul:=hall _ (Y2 hu);have hvl:=hbd _ (Y2 hv);have g2:=zY hv;have hLu:=hLg _ _ hu;have hst:=Fw (fW (fW L S2 j) S j) S.length j u v c (n+1) om (AM hLu (Y8 _)) hul hvl om om;rw[zC hLu] at hst;have hstep2:=z8 (B:=4294967296) hB (s:=S) (x:=u) (y:=v) rfl h5;have hdv:(c+(u+v))/4294967296<=1:=om;have hmd:(c+(u+v))%4294967296<4294967296:=Zx _ (by decide);refine Z ?_;repeat((first|refine aC g2 ?_|refine aY ?_);refine Z ?_)
    refine aJ.useN bJ [(1,0),(2,1),(0,2)] hst rfl (.s (.s (.cons (.ptr 1 0 0 0 rfl) (.cons (.ptr 2 1 0 0 rfl) .nil)))) ⟨aI 1 (kP _ _),⟨2,_,rfl,rfl,cV rfl rfl⟩,aI 0 (aM _),trivial⟩ rfl ?_;rintro r' m' n' ⟨rfl,rfl,rfl⟩;refine⟨[(0,1),(1,2),(2,0)],_,X0 ((c+(u+v))/4294967296) j (n+1) (fW (fW L S2 j) (S++[(c+(u+v))%4294967296]) j),3,.same _ nn,⟨aI 0 (kP _ _),⟨1,_,rfl,rfl,cV rfl rfl⟩,aI 2 (aM _),trivial⟩,rfl, ?_⟩;refine Z ?_;exact .mk (S++[(c+(u+v))%4294967296],(c+(u+v))/4294967296) [(0,0),(1,1),(2,2)] ⟨by simp;omega,gO h2 hmd,hdv,by simp only[ZA,ZZ];rw[jE hu,jE hv];exact hstep2⟩
     (aK _ rfl ⟨aI 1 (kP _ _),⟨2,_,rfl,rfl,cV rfl rfl⟩,aI 0 (aM _),trivial⟩
      ⟨aP (.il' (aM _)),⟨_,rfl,(.fn _ _ _ _ _ rfl rfl sq (g6.cons (.ptr 1 1 0 0 rfl) (.cons (.ptr 2 2 0 0 rfl) .nil)).2)⟩,aP (.il' (aM _)),aF,⟨_,rfl,.w64 sq ⟨by simp;omega,by simp;omega⟩⟩,trivial⟩) (by simp;omega)
   .have hlt:S.length=n:=by simp at hb;omega
    rw[hlt,<-hbl,ZJ,hbv] at h5;obtain⟨u,hu⟩:∃u,S2[S.length]? = some u:=⟨_,Yw om⟩
    have hul:=hall _ (Y2 hu);have hLu:=hLg _ _ hu;have hst:=Fw (fW (fW L S2 j) S j) S.length j u 0 c (n+1) om (AM hLu (Y8 _)) hul (by decide) om om;rw[zC hLu] at hst;have hstep2:=z8 (B:=4294967296) hB (s:=S) (va:=vl 4294967296 (S2.take bl.length)) (vb:=V) (c:=c) (i:=S.length) (x:=u) (y:=0) rfl (by rw[hlt,<-hbl];exact h5);have hdv:(c+(u+0))/4294967296<=1:=om;have hmd:(c+(u+0))%4294967296<4294967296:=Zx _ (by decide);have hSd2:(S++[(c+(u+0))%4294967296]).length=n+1:=by simp;omega
    have hUt2:vl 4294967296 (S2.take bl.length)+4294967296 ^ S.length*u=vl 4294967296 S2:=by
     rw[hbl,<-hlt,<-jE hu,hlt,Y9 om]
    rw[hUt2,aAx,Zm] at hstep2;have hall2:=gO h2 hmd;have hlt4:=vS hB (S++[(c+(u+0))%4294967296]) hall2;rw[hSd2] at hlt4;rw[hlt] at hstep2 hst;generalize S++[(c+(u+0))%4294967296]=T at *;generalize (c+(u+0))/4294967296=c2 at *;have hc2:c2=1:=by
     rcases(show c2=0\/c2=1 by omega) with e|e
     .exfalso;rw[e,aAx] at hstep2;rw[aAA] at hstep;omega
     .exact e
    have hT:T=eZ (dg 4294967296 (U+V-q*V)) (n+1):=by
     have:=nI hB T hall2;rw[hSd2,show vl 4294967296 T=U+V-q*V by rw[hc2,aAA] at hstep2;rw[aAA] at hstep;omega] at this;exact this
    have hseg:fW (fW L S2 j) T j=fW L T j:=Nk om om;rw[hseg] at hst;refine Z ?_;rw[aU,hbl];refine aJ.useN bJ [(1,0),(2,1),(0,2)] hst rfl (.s (.s (.cons (.ptr 1 0 0 0 rfl) (.cons (.ptr 2 1 0 0 rfl) .nil)))) ⟨aI 1 (kP _ _),⟨2,_,rfl,rfl,cV rfl rfl⟩,aI 0 (aM _),trivial⟩ rfl ?_;rintro r' m' n' ⟨rfl,rfl,rfl⟩;refine⟨[(0,1),(1,2),(2,0)],_,X0 c2 j (n+1) (fW L T j),3,.same _ nn,⟨aI 0 (kP _ _),⟨1,_,rfl,rfl,cV rfl rfl⟩,aI 2 (aM _),trivial⟩,rfl, ?_⟩;refine Z ?_;exact bM (r':=.bool (decide (U<q*V))) (n':=1) (m':=[(0,.row 157 1 (bB (fW L (eZ (dg 4294967296 (if U<q*V then U+V-q*V else U-q*V)) (n+1)) j)))]) [(0,0)] rfl ⟨⟨0,_,rfl,rfl,.eq (aM _) (by rw[Y4 hlt3,<-hT])⟩,trivial⟩ (.bool (by rw[Y7 hlt3])) ⟨rfl,rfl,rfl⟩
def RM(n nl qn:Nat)(dl N Q:List Nat):aQ:=[(0,.row 30 1 [.sl 4 0 nl]),(1,.row 3 1 [.int .i64 (n:Int)]),(2,.row 30 1 [.il 1 (bB dl)]),(3,.row 30 1 [.sl 5 0 qn]),(4,.row 157 1 (bB N)),(5,.row 157 1 (bB Q))]
theorem kR{mem:aQ}{J:List (Nat × Nat)}{l:List Nat}:tO mem J [.il 1 (bB l)] [.il 1 (bB l)]:=.same (λa ha=>by rw[aAY.1 ha];exact .il' (aM _))
theorem SS(N Q dl:List Nat)(j n q V U nl qn:Nat)(hV:(dg 4294967296 V).length<=n)(hbl:dl.length=n)(hbd:∀d∈dl,d<4294967296)(hbv:vl 4294967296 dl=V)(hN:∀d∈N,d<4294967296)(hNl:N.length=nl)(hj:j+(n+1)<=nl)(hnn:nl<=1000001)(hQl:Q.length=qn)(hjq:j<qn)(hq:q<4294967296)
  (hU:U=vl 4294967296 ((N.drop j).take (n+1))) (up:U<(q+1)*V) (hqv:q*V<=U+V) :
  aJ prog [] 180 [.int .i64 j,.int .u64 q,.ptr 0 0 0,.ptr 1 0 0,.ptr 2 0 0,.ptr 3 0 0] (RM n nl qn dl N Q) 6
  λr m k=>r = .tup []/\m=RM n nl qn dl (fW N (eZ (dg 4294967296 (U%V)) (n+1)) j) (Q.set j (U/V))/\k=6:=by
 have hT:=NX N j n q V hV dl hbl hbd hbv hN om om hq U hU hqv;obtain⟨z,hz⟩:∃z,Q[j]? = some z:=⟨_,Yw om⟩
 have g:=mN hz;have bi:=lM (i:=j) (n:=qn) hjq;have e1:IntKind.i64.wrap ((j:Int)+(n:Int))=((j+n:Nat):Int):=by rw[bS oq];omega
 have e2:IntKind.i64.wrap (((j+n:Nat):Int)+1)=((j+(n+1):Nat):Int):=by rw[bS oq];omega
 refine aG bJ func180 rfl ?_;refine Z ?_;rw[e1,e2];refine Z ?_;have e3:0+((j:Nat):Int).toNat=j:=by rw[Yy];omega
 have e4:((j+(n+1):Nat):Int).toNat-((j:Nat):Int).toNat=n+1:=by rw[Yy,Yy];omega
 refine aO (by rw[Yy,Yy,Y3 om,Y3 hj,Y3 (Y8 _)];rfl) ?_;refine Z ?_;rw[e3,e4];refine aJ.useN bJ [(4,0)] hT rfl (.cons (.sl 4 0 j (n+1) rfl) (.cons (.same _ (.il' (aM _))) (.s .nil))) ⟨aI 4 (aM _),trivial⟩ rfl ?_;rintro r' m' n' ⟨rfl,rfl,rfl⟩;refine⟨[(0,4)],_,[(4,.row 157 1 (bB (fW N (eZ (dg 4294967296 (if U<q*V then U+V-q*V else U-q*V)) (n+1)) j)))],16,.same _ nn,⟨aI 0 (aM _),trivial⟩,rfl, ?_⟩;refine Rt ?_;by_cases hc:U<q*V
 .rw[Y4 hc,Y7 hc];have hq0:0<q:=by
   rcases ZC q with e|e
   .rw[e,aBV] at hc;omega
   .exact e
  obtain⟨q1,q2⟩:=Ko hq0 hc hqv;have e5:IntKind.u64.wrap ((q:Int)-1)=((q-1:Nat):Int):=by rw[show (q:Int)-1=((q-1:Nat):Int) by omega];exact iD om
  rw[show U+V-q*V=U%V by omega];refine Z ?_;rw[e5];refine Rs ?_;repeat((first|refine aO bi ?_|refine aC g ?_);refine Rt ?_)
  exact bM (n':=6) (m':=RM n nl qn dl (fW N (eZ (dg 4294967296 (U%V)) (n+1)) j) (Q.set j (U/V))) [(0,0),(1,1),(2,2),(3,3),(4,4),(5,5)] rfl ⟨⟨0,_,rfl,rfl,cV rfl rfl⟩,aI 1 (kP _ _),⟨2,_,rfl,rfl,kR⟩,⟨3,_,rfl,rfl,cV rfl rfl⟩,aI 4 (aM _),⟨5,_,rfl,rfl,.eq (aM _) (by rw[Ig om,Yy,ZP,iA,q1])⟩,trivial⟩ (.same _ nn) ⟨rfl,rfl,rfl⟩
 .rw[Yz hc,ZN hc];obtain⟨q1,q2⟩:=uH up om;rw[<-q2];refine Rt ?_;repeat((first|refine aO bi ?_|refine aC g ?_);refine Rt ?_)
  exact bM (n':=6) (m':=RM n nl qn dl (fW N (eZ (dg 4294967296 (U%V)) (n+1)) j) (Q.set j (U/V))) [(0,0),(1,1),(2,2),(3,3),(4,4),(5,5)] rfl ⟨⟨0,_,rfl,rfl,cV rfl rfl⟩,aI 1 (kP _ _),⟨2,_,rfl,rfl,kR⟩,⟨3,_,rfl,rfl,cV rfl rfl⟩,aI 4 (aM _),⟨5,_,rfl,rfl,.eq (aM _) (by rw[Ig om,Yy,ZP,iA,q1])⟩,trivial⟩ (.same _ nn) ⟨rfl,rfl,rfl⟩
theorem AC:∀l:List Nat,fB l=l.take (fB l).length
 | []=>rfl
 | d::r=>by
  rw[fB];split
  .rfl
  .rw[Zc,List.take_succ_cons,<-AC r]
theorem VB(l:List Nat)(n:Nat)(hn:n<=l.length)(hl:l.length<=4294967296):aJ prog [] 86 [.sl 0 0 n] [(0,.row 157 1 (bB l))] 1
  λr m k=>r = .sl 0 0 (fB (l.take n)).length/\m=[(0,.row 157 1 (bB l))]/\k=1:=by
 refine aG bJ func86 rfl ?_;refine Z ?_;refine bI.at bJ (λk:Nat=>k<=n/\fB (l.take k)=fB (l.take n)) (λk=>⟨[(0,.sl 0 0 k)],[(0,.row 157 1 (bB l))],1,21⟩) (λk=>k) n [(0,0)] ⟨Y8 _,rfl⟩
  (aK _ rfl ⟨aI 0 (aM _),trivial⟩ ⟨⟨_,rfl,.slE rfl rfl⟩,trivial⟩) ?_
 rintro k ⟨hk,ht⟩;refine Z ?_;refine aL (λhb=>?_) (λhb=>?_)
 .rw[hb];have hk0:0<k:=su hb
  obtain⟨j,rfl⟩:∃j,k=j+1:=⟨k-1,om⟩
  obtain⟨d,hd⟩:∃d,l[j]? = some d:=⟨_,Yw om⟩
  have hw:IntKind.i64.wrap (((j+1:Nat):Int)-1)=(j:Int):=by rw[bS oq];omega
  have e1:=mN hd;have bi:=lM (i:=j) (n:=j+1) om;have hts:fB (l.take (j+1))=if d=0 then fB (l.take j) else l.take (j+1):=by
   rw[wQ hd,yK]
  refine Z ?_;rw[hw];refine aO bi ?_;refine Z ?_;refine aC e1 ?_;refine Z ?_;refine aC e1 ?_;refine Z ?_;refine aL (λhc=>?_) (λhc=>?_)
  .have hd0:d=0:=su hc
   refine Z ?_;rw[hw];refine aO (Oa om) ?_;refine Z ?_;exact .mk j [(0,0)] ⟨om,by rw[Y4 hd0] at hts;rw[<-hts];exact ht⟩ (aK _ rfl ⟨aI 0 (aM _),trivial⟩ ⟨⟨_,rfl,.slE rfl sq⟩,trivial⟩) om
  .refine Z ?_;have hd0:d≠0:=su hc
   rw[Yz hd0] at hts;exact bM (n':=1) (m':=[(0,.row 157 1 (bB l))]) [(0,0)] rfl ⟨aI 0 (aM _),trivial⟩ (.slE rfl (by rw[<-ht,hts,ZO];omega)) ⟨rfl,rfl,rfl⟩
 .try rw[hb]
  have hk0:k=0:=by simp at hb;omega
  subst hk0;refine Z ?_;exact bM (n':=1) (m':=[(0,.row 157 1 (bB l))]) [(0,0)] rfl ⟨aI 0 (aM _),trivial⟩ (.slE rfl (by rw[<-ht];rfl)) ⟨rfl,rfl,rfl⟩
theorem Uh{d:Nat}(h0:0<d)(h:d<4294967296):dg 4294967296 d=[d]:=by
 rw[qV (by decide) h0,Zs h,aAj h,fP]
theorem PC{y s:Nat}{b:List Nat}{n u:Nat}(hb:b=dg 4294967296 y)(hl:b.length=n+1)(hu:b[n]? = some u)(h1:2147483648<=u*2 ^ s)(h2:u*2 ^ s<4294967296)(hs:s<32) :
  2147483648*4294967296 ^ n<=y*2 ^ s/\y*2 ^ s<4294967296 ^ (n+1):=by
 have hB:(2:Nat)<=4294967296:=by decide
 have hd:=l6 hB y;have hv:=mO hB y;rw[<-hb] at hd hv;have e:=oQ 4294967296 b n om;rw[dR hu,Zy om,hv] at e;have hlt:=vS hB (b.take n) λd hm=>hd d (Zg hm)
 rw[ZO,Z1 om] at hlt;simp only[vl,aAx,Zm] at e;have hp:0<2 ^ s:=aAN (by decide);constructor
 .have:4294967296 ^ n*(u*2 ^ s)<=y*2 ^ s:=by rw[<-Nat.mul_assoc];exact ZF _ om
  have h3:4294967296 ^ n*2147483648<=4294967296 ^ n*(u*2 ^ s):=Zl _ h1;rw[ZX 2147483648];omega
 .have h3:y<4294967296 ^ n*(u+1):=by rw[Nat.mul_add,aAA];omega
  have h4:y*2 ^ s<4294967296 ^ n*(u+1)*2 ^ s:=aAW h3 hp;have h5:(u+1)*2 ^ s<=4294967296:=by
   have hpq:2 ^ s*2 ^ (32-s)=4294967296:=Aw om;rw[<-hpq,ZX] at h2;have:u<2 ^ (32-s):=aA5 h2;rw[<-hpq,ZX];exact Zl _ this
  have h6:4294967296 ^ n*((u+1)*2 ^ s)<=4294967296 ^ n*4294967296:=Zl _ h5;rw[Nat.pow_succ];rw[Nat.mul_assoc] at h4;omega
theorem Oq(y:Nat)(hy0:0<y)(hb2:2<=(dg 4294967296 y).length):∃n u s,(dg 4294967296 y).length=n+2/\(dg 4294967296 y)[n+1]? = some u/\s<32/\2147483648*4294967296 ^ (n+1)<=y*2 ^ s/\y*2 ^ s<4294967296 ^ (n+1+1)/\(dg 4294967296 (y*2 ^ s)).length=n+2 /\
  aX prog [] 178 [.int .u32 u] (.int .i64 (s:Nat)):=by
 have hB:(2:Nat)<=4294967296:=by decide
 obtain⟨n,hn⟩:∃n,(dg 4294967296 y).length=n+2:=⟨(dg 4294967296 y).length-2,om⟩
 obtain⟨u,hu⟩:∃u,(dg 4294967296 y)[n+1]? = some u:=⟨_,Yw om⟩
 have hul:=l6 hB y _ (Y2 hu);have hu0:0<u:=by
  have h1:=oQ 4294967296 (dg 4294967296 y) (n+1) om;rw[dR hu,Zy om,mO hB] at h1;have h2:=vS hB ((dg 4294967296 y).take (n+1)) λd hm=>l6 hB y d (Zg hm)
  rw[ZO,Z1 om] at h2;have h3:=TJ hB y hy0;rw[hn,show n+2-1=n+1 by omega] at h3;clear hn hu hul;simp only[vl,aAx,Zm] at h1;generalize 4294967296 ^ (n+1)=P at *;rcases ZC u with e|e
  .rw[e,aAx,Zm] at h1;omega
  .exact e
 have hlz:=Yq u hu0 hul;obtain⟨s1,s2,s3⟩:=S8 hu0 hul;generalize 31-Nat.log2 u=s at *;obtain⟨v1,v2⟩:=PC rfl hn hu s2 s3 s1;refine⟨n,u,s,hn,hu,s1,v1,v2, ?_,hlz⟩;have h1:=k9 hB v2;rcases ZG (dg 4294967296 (y*2 ^ s)).length (n+2) with h2|h2
 .exfalso;have h3:=iC (n:=y*2 ^ s) hB;have h4:4294967296 ^ (dg 4294967296 (y*2 ^ s)).length<=4294967296 ^ (n+1):=aAd (by decide) om;have h6:y*2 ^ s<4294967296 ^ (n+1):=aAo h3 h4;have h7:2147483648*4294967296 ^ (n+1)<4294967296 ^ (n+1):=aAf v1 h6;generalize 4294967296 ^ (n+1)=P at h7;omega
 .omega
theorem HD{L:List Nat}{j n i u:Nat}(h:L[j+i]? = some u)(hi:i<n):((L.drop j).take n)[i]? = some u:=by
 rw[Za,Y4 hi,ZS];exact h
structure YQ(qn lx V X m:Nat)(N R:List Nat):Prop where
 a1:m<=qn
 a2:N.length=lx+1
 a3:∀d∈N,d<4294967296
 a4:R.length=qn-m
 a5:∀d∈R,d<4294967296
 a6:vl 4294967296 R*4294967296 ^ m*V+vl 4294967296 N=X
 a7:vl 4294967296 N<V*4294967296 ^ m
theorem MK(x y:Nat)(hy0:0<y)(hx:(dg 4294967296 x).length<=1000000)(hy:(dg 4294967296 y).length<=1000000):aX prog [] 112 [.il 1 (bB (dg 4294967296 x)),.il 1 (bB (dg 4294967296 y))] (.tup [.il 1 (bB (dg 4294967296 (x/y))),.il 1 (bB (dg 4294967296 (x%y)))]):=by
 have hB:(2:Nat)<=4294967296:=by decide
 have hcm:=Tl x y om;have ta:NN (.il 1 (bB (dg 4294967296 x))):=.il' (aM _);have tb:NN (.il 1 (bB (dg 4294967296 y))):=.il' (aM _);have tr:NN (.tup [.il 1 (bB (dg 4294967296 (x/y))),.il 1 (bB (dg 4294967296 (x%y)))]):=.tup' (.cons (.il' (aM _)) (.cons (.il' (aM _)) .nil));refine aG bJ func112 rfl ?_;refine Z ?_;refine hcm.go ?_ (.cons ta (.cons tb .nil)) nn;refine Z ?_;refine aL (λhb=>?_) (λhb=>?_)
 .have hlt:x<y:=by
   have hb:dY (x:Int) y<0:=su hb
   unfold dY at hb;split at hb<;>(try split at hb)<;>omega
  rw[aAj hlt,Zs hlt,fP];refine Z ?_;exact cW (r':=.tup [.il 1 (bB []),.il 1 (bB (dg 4294967296 x))]) (.tup' (.cons (.nil 1) (.cons (.same _ ta) .nil))) ⟨rfl,rfl,rfl⟩
 .have hge:y<=x:=by
   have hb:¬dY (x:Int) y<0:=su hb
   unfold dY at hb;split at hb<;>(try split at hb)<;>omega
  have hlen:=dO hB hge;clear hb hcm;refine Z ?_;rw[aU];refine aL (λhb=>?_) (λhb=>?_)
  .have hb1:(dg 4294967296 y).length=1:=by simp at hb;omega
   have hyB:y<4294967296:=by
    have:=iC (n:=y) hB;rw[hb1] at this;simpa using this
   have hdw:=O0 x y hx hy0 hyB;have g:(bB (dg 4294967296 y))[0]? = some (.int .u32 (y:Int)):=by rw[Uh hy0 hyB];rfl
   have hlp:(eZ (dg 4294967296 (x/y)) (dg 4294967296 x).length).length<=4294967296:=by
    have:=CP hB x y;rw[jP this];omega
   have tq:∀l,NN (.il 1 (bB l)):=λl=>.il' (aM l)
   refine Z ?_;refine aC g ?_;refine Z ?_;refine hdw.go ?_ (.cons ta (.cons nn .nil)) (.tup' (.cons (tq _) (.cons nn .nil)));refine Z ?_;refine(Ad _ hlp).go ?_ (.cons (tq _) .nil) (tq _);rw[Cn];refine Z ?_;have hr:x%y<4294967296:=Nat.lt_trans (Zx _ hy0) hyB;have hz:fB [x%y]=dg 4294967296 (x%y):=by
    rw[kI hB [x%y] (λd hd=>by rw[aAY.1 hd];exact hr)];simp[vl]
   refine aJ.pre bJ [] (mem':=[]) rfl trivial (.cons (.fz' (id:=0) (ys:=bB [x%y]) rfl rfl sq (by simp[bB]) (aM _)) .nil) ?_;refine(Ad [x%y] sq).go ?_ (.cons (tq _) .nil) (tq _);rw[hz];refine Z ?_;exact aA tr ⟨rfl,rfl,rfl⟩
  .have hb2:2<=(dg 4294967296 y).length:=by
    have:0<(dg 4294967296 y).length:=by
     have:=n6 (B:=4294967296) (n:=y) hB;rw[Zp] at this;exact this.2 hy0
    simp at hb;omega
   obtain⟨n,u,s,hn,hu,s1,v1,v2,hVl,hlz⟩:=Oq y hy0 hb2;have hw:IntKind.i64.wrap (((bB (dg 4294967296 y)).length:Int)-1)=((n+1:Nat):Int):=by rw[aU,hn,bS oq];omega
   have gu:=zY hu;have hsx:=Iv x s s1 hx;have hsy:=Iv y s s1 hy;rw[hn] at hsy;obtain⟨lx,hlx⟩:∃lx,lx=(dg 4294967296 x).length:=⟨_,rfl⟩
   rw[<-hlx] at hsx;obtain⟨Nl,hNl⟩:∃Nl,Nl=eZ (dg 4294967296 (x*2 ^ s)) (lx+1):=⟨_,rfl⟩
   rw[<-hNl] at hsx;obtain⟨Dl,hDl⟩:∃Dl,Dl=eZ (dg 4294967296 (y*2 ^ s)) (n+2+1):=⟨_,rfl⟩
   rw[<-hDl] at hsy;have ebl:=aU (dg 4294967296 y);rw[hn] at ebl;generalize hbE:bB (dg 4294967296 y)=bE at *;generalize haE:bB (dg 4294967296 x)=aE at *;refine Z ?_;rw[hw];refine Z ?_;refine aC gu ?_;refine Z ?_;refine hlz.go ?_ (.cons nn .nil) nn;refine Z ?_;refine aJ.useN bJ [] hsx rfl (.same (.cons ta (.cons nn .nil))) trivial rfl ?_;rintro r' m' n' ⟨rfl,rfl,rfl⟩;refine⟨[(0,13)],.sl 13 0 (lx+1),[(13,.row 157 1 (bB Nl))],14,.sl 0 13 0 _ rfl,⟨aI 0 (aM _),trivial⟩,rfl, ?_⟩;refine Z ?_;refine aJ.useN bJ [] hsy rfl (.same (.cons tb (.cons nn .nil))) trivial rfl ?_;rintro r' m' n' ⟨rfl,rfl,rfl⟩;refine⟨[(0,14)],.sl 14 0 (n+2+1),[(14,.row 157 1 (bB Dl))],15,.sl 0 14 0 _ rfl,⟨aI 0 (aM _),trivial⟩,rfl, ?_⟩;have hV:=mO hB (y*2 ^ s);have hVd:=l6 hB (y*2 ^ s);have hDe:Dl=dg 4294967296 (y*2 ^ s)++[0]:=by rw[hDl];unfold eZ;rw[hVl,show n+2+1-(n+2)=1 by omega];rfl
   have hNle:(dg 4294967296 (x*2 ^ s)).length<=lx+1:=by
    refine k9 hB ?_;have h1:=iC (n:=x) hB;have h2:2 ^ s<4294967296:=by rw[show 4294967296=2 ^ 32 by decide];exact Nat.pow_lt_pow_right (by decide) s1
    rw[<-hlx] at h1;rw[Nat.pow_succ];exact Nat.mul_lt_mul'' h1 h2
   have hNv:vl 4294967296 Nl=x*2 ^ s:=by rw[hNl,G1,mO hB]
   have hNd:∀d∈Nl,d<4294967296:=λd hd=>by
    rw[hNl] at hd;rcases ZI.1 hd with h|h
    .exact l6 hB _ d h
    .rw[aAK h];decide
   have hNlen:Nl.length=lx+1:=by rw[hNl];exact jP hNle
   clear hNl hDl;obtain⟨dl,hdl⟩:∃dl,dl=dg 4294967296 (y*2 ^ s):=⟨_,rfl⟩
   rw[<-hdl] at hV hVd hDe hVl;obtain⟨lead,hld⟩:∃d,dl[n+1]? = some d:=⟨_,Yw om⟩
   obtain⟨next,hnx⟩:∃d,dl[n]? = some d:=⟨_,Yw om⟩
   have gd1:(bB Dl)[0+((n+1:Nat):Int).toNat]? = some (.int .u32 (lead:Int)):=mN (by rw[hDe,ZK om];exact hld);have gd2:(bB Dl)[0+((n:Nat):Int).toNat]? = some (.int .u32 (next:Int)):=mN (by rw[hDe,ZK om];exact hnx);refine Z ?_;rw[ebl];have hsl:(Nat.ble 0 ((n+2:Nat):Int).toNat && (Nat.ble ((n+2:Nat):Int).toNat (n+2+1) && Nat.ble (n+2+1) (n+2+1)))=true:=by
    rw[Yy,Y3 (aAp _),Y3 om,Y3 (Y8 _)];rfl
   have ez:((n+2:Nat):Int).toNat-0=n+2:=by rw[Yy];omega
   have ew1:IntKind.i64.wrap (((n+2:Nat):Int)-1)=((n+1:Nat):Int):=by rw[bS oq];omega
   have ew2:IntKind.i64.wrap (((n+2:Nat):Int)-2)=((n:Nat):Int):=by rw[bS oq];omega
   have bb1:=lM (i:=n+1) (n:=n+2) om;have bb2:=lM (i:=n) (n:=n+2) om;have hle2:n+2<=lx:=om;obtain⟨qn,hqn⟩:∃qn,lx+1=(n+2)+qn:=⟨lx+1-(n+2),om⟩
   have ew3:IntKind.i64.wrap (((lx+1:Nat):Int)-((n+2:Nat):Int))=(qn:Int):=by rw[bS oq];omega
   repeat((first|refine aY ?_|refine aO hsl ?_|rw[ez]);refine Z ?_)
   repeat((first|rw[ew1]|rw[ew2]|refine aO bb1 ?_|refine aO bb2 ?_|refine aC gd1 ?_|refine aC gd2 ?_|refine aY ?_);refine Z ?_)
   rw[ew3];refine aO (Bv rfl rfl rfl om rfl) ?_;refine Z ?_;have ew4:IntKind.i64.wrap ((qn:Int)-1)=(qn:Int)-1:=bS oq;repeat((first|rw[ew3]|rw[ew4]|refine aY ?_);refine Z ?_)
   obtain⟨V,hVe⟩:∃V,V=y*2 ^ s:=⟨_,rfl⟩
   obtain⟨X,hXe⟩:∃X,X=x*2 ^ s:=⟨_,rfl⟩
   rw[<-hVe] at hV v1 v2 hdl;rw[<-hXe] at hNv;have hfin:=λQ R=>Kr (x:=x) (y:=y) (p:=2 ^ s) (aAN (by decide)) Q R
   rw[<-hVe,<-hXe] at hfin;have hX0:X<V*4294967296 ^ qn:=by
    have h1:=iC (n:=x) hB;rw[<-hlx] at h1;have h2:2 ^ s<=2147483648:=by rw[show 2147483648=2 ^ 31 by decide];exact aAd (by decide) om
    have h3:X<4294967296 ^ lx*2147483648:=by rw[hXe];exact aAo (aAW h1 (aAN (by decide))) (Zl _ h2)
    have h4:2147483648*4294967296 ^ (n+1)*4294967296 ^ qn<=V*4294967296 ^ qn:=ZF _ v1;rw[Nat.mul_assoc,<-Nat.pow_add,show n+1+qn=lx by omega,ZX] at h4;exact aAo h3 h4
   have hldB:lead<4294967296:=hVd _ (Y2 hld);have hnxB:next<4294967296:=hVd _ (Y2 hnx)
   have hdd:=hVd;obtain⟨w1,w2⟩:=Rc hB hVl hdd hnx hld;rw[hV] at w1 w2;have hhalf:=My v1 w2 hnxB;have hV0:0<V:=by rw[hVe];exact aAM hy0 (aAN (by decide))
   have hVlen:(dg 4294967296 V).length<=n+2:=by rw[<-hdl,hVl];omega
   have hDe':=hDe;clear hVd hDe hu gu hlz hsx hsy v1 hw hlen hge;refine bI.at bJ (λp:Nat × List Nat × List Nat=>YQ qn lx V X p.1 p.2.1 p.2.2)
    (λp=>⟨[(8,.int .i64 s),(9,.ptr 0 0 0),(11,.ptr 1 0 0),(12,.int .u64 lead),(13,.int .u64 next),(14,.ptr 3 0 0),(15,.fn (.func 180) [] [.ptr 0 0 0,.ptr 1 0 0,.ptr 2 0 0,.ptr 3 0 0]),(16,.int .i64 ((p.1:Int)-1))],RM (n+2) (lx+1) qn dl p.2.1 (qT p.1 p.2.2),6,153⟩)
    (λp=>p.1) (qn,Nl,[]) [(9,0),(15,1),(10,2),(31,3),(13,4),(30,5)] ⟨sq,hNlen,hNd,sq,sq,by simp only[vl];rw[hNv];omega,by simp only;rw[hNv];exact hX0⟩
    (aK _ rfl ⟨⟨9,_,rfl,rfl,cV rfl rfl⟩,aI 15 (kP _ _),⟨10,_,rfl,rfl,.cons (.one rfl rfl (.fz' (id:=14) rfl rfl (by rw[aU,hDe',ZA,hVl];simp) (by rw[hDe',ZP,ZU,Jf,aAb (by rw[aU,hVl];omega),Y9 (by rw[aU,hVl];omega)]) (aM _))) .nil⟩,⟨31,_,rfl,rfl,cV rfl (Yy _)⟩,aI 13 (aM _),⟨30,_,rfl,rfl,.eq (aM _) (by rw[Yy];simp[qT,yG])⟩,trivial⟩
     ⟨aF,aN,aN,⟨_,rfl,.int (iD om)⟩,⟨_,rfl,.int (iD om)⟩,aN,⟨_,rfl,(.fn _ _ _ _ _ rfl rfl sq (g6.cons (.ptr 9 0 0 0 rfl) (.cons (.ptr 15 1 0 0 rfl) (.cons (.ptr 10 2 0 0 rfl) (.cons (.ptr 31 3 0 0 rfl) .nil)))).2)⟩,⟨_,rfl,.int rfl⟩,trivial⟩) ?_
   rintro⟨m,N,R⟩ ⟨k1,k2,k3,k4,k5,k6,k7⟩;simp only at k1 k2 k3 k4 k5 k6 k7 |-;refine Z ?_;refine aL (λhb=>?_) (λhb=>?_)
   .have hm1:0<m:=by simp at hb;omega
    obtain⟨j,rfl⟩:∃j,m=j+1:=⟨m-1,om⟩
    rw[show (((j+1:Nat):Int)-1)=(j:Int) by omega];obtain⟨sv1,sv2,sv3⟩:=T9 hB k3 om v2 k7;obtain⟨u2,hu2⟩:∃d,N[j+(n+2)]? = some d:=⟨_,Yw om⟩
    obtain⟨u1,hu1⟩:∃d,N[j+(n+1)]? = some d:=⟨_,Yw om⟩
    obtain⟨u0,hu0⟩:∃d,N[j+n]? = some d:=⟨_,Yw om⟩
    have hu2B:=k3 _ (Y2 hu2);have hu1B:=k3 _ (Y2 hu1);have hu0B:=k3 _ (Y2 hu0);have hsl3:((N.drop j).take (n+3)).length=n+3:=by rw[ZO,aAG];omega
    obtain⟨q1,q2⟩:=RP hB hsl3 (λd hd=>k3 d (Zr (Zg hd))) (HD hu0 om) (HD hu1 om) (HD hu2 om);obtain⟨U,hU⟩:∃U,U=vl 4294967296 ((N.drop j).take (n+3)):=⟨_,rfl⟩
    rw[<-hU] at sv1 sv3 q1 q2;have hest:Yd 4294967296 (4294967296 ^ n) U V ((u2*4294967296+u1)*4294967296+u0) (lead*4294967296+next) (u2*4294967296+u1) lead next u0:=
     ⟨hB,aAN (by decide),q1,q2,w1,w2,rfl,rfl,hu0B,hnxB,hldB,hhalf,sv3⟩
    have hst:=λ(q:Nat) (hq:q<4294967296) (up:U<(q+1)*V) (hqv:q*V<=U+V)=>
     SS N (qT (j+1) R) dl j (n+2) q V U (lx+1) qn hVlen hVl hdd hV k3 k2 om om (by simp[qT];omega) om hq hU up hqv
    rw[Ic] at hst;have hnext:=RD (B:=4294967296) hB (S:=eZ (dg 4294967296 (U%V)) (n+3)) (j:=j) (n:=n) (V:=V) (U:=U) k3 om
     (jP (Zj (dO hB (aBa (Zx U hV0))) om)) (by rw[G1,mO hB]) hV0 sv1 sv2 k6
    have hqB:U/V<4294967296:=RE sv3;have hei:=Pc hest;have htop:=F6 hest;have hnew:YQ qn lx V X j (fW N (eZ (dg 4294967296 (U%V)) (n+2+1)) j) (U/V::R):=by
     have hpl:(eZ (dg 4294967296 (U%V)) (n+2+1)).length=n+3:=jP (Zj (dO hB (aBa (Zx U hV0))) om);refine⟨om,by rw[Hd (by rw[hpl,k2];omega)];exact k2,I4 k3 (λz hz=>?_),by simp only[Zc];omega,λz hz=>?_, ?_, ?_⟩
     .rcases ZI.1 hz with h|h
      .exact l6 hB _ z h
      .rw[aAK h];decide
     .rcases Y6.1 hz with rfl|hz
      .exact hqB
      .exact k5 z hz
     .exact hnext.1
     .exact hnext.2
    clear hnext k6 k7 sv1 sv2 sv3 q1 q2 w1 w2 v2 hX0 hfin hNv hU hV hNd hNlen hdd hVlen k5 hqB;have x1:IntKind.i64.wrap ((j:Int)+((n+2:Nat):Int))=((j+(n+2):Nat):Int):=by rw[bS oq];omega
    have x2:IntKind.i64.wrap (((j+(n+2):Nat):Int)-1)=((j+(n+1):Nat):Int):=by rw[bS oq];omega
    have x3:IntKind.i64.wrap (((j+(n+2):Nat):Int)-2)=((j+n:Nat):Int):=by rw[bS oq];omega
    have b2:=lM (i:=j+(n+2)) (n:=lx+1) om;have b1:=lM (i:=j+(n+1)) (n:=lx+1) om;have b0:=lM (i:=j+n) (n:=lx+1) om;have g2:=mN hu2;have g1:=mN hu1;have g0:=mN hu0;have y1:IntKind.u64.wrap (u1:Int)=(u1:Int):=iD om;have y2:IntKind.u64.wrap (u2:Int)=(u2:Int):=iD om;have y0:IntKind.u64.wrap (u0:Int)=(u0:Int):=iD om;have y3:bits BinOp.or IntKind.u64 (IntKind.u64.wrap ((u2:Int)*2 ^ min (Int.toNat 32) IntKind.u64.bits)) (u1:Int)=((u2*4294967296+u1:Nat):Int):=J6 hu2B hu1B;obtain⟨tp,htp⟩:∃tp,tp=u2*4294967296+u1:=⟨_,rfl⟩
    rw[<-htp] at y3 hest hei htop;have hld0:(!decide ((lead:Int)=0))=true:=by simp;omega
    have htpB:tp<18446744073709551616:=om;have y4:IntKind.u64.wrap ((tp:Int).tdiv (lead:Int))=((tp/lead:Nat):Int):=by rw[JG];exact iD (aAf (aAS _ _) htpB)
    have y5:IntKind.u64.wrap ((tp:Int).tmod (lead:Int))=((tp%lead:Nat):Int):=by rw[Cg];exact iD (aAf (Nat.mod_le _ _) htpB)
    refine Z ?_;repeat((first|rw[x1]|rw[x2]|refine aO b2 ?_|refine aC g2 ?_|refine aO b1 ?_|refine aC g1 ?_|refine aY ?_);refine Z ?_)
    rw[y2,y1,y3];repeat((first|refine aO hld0 ?_|rw[y4]|rw[y5]|refine aY ?_);refine Z ?_)
    have y6:(tp:Int).tmod (lead:Int)=((tp%lead:Nat):Int):=Cg tp lead;generalize tp/lead=d0 at *;generalize tp%lead=r0 at *;refine bI.at bJ (λp:Nat × Nat=>RN 4294967296 U V tp lead p.1 p.2)
     (λp=>⟨[(8,.int .i64 s),(9,.ptr 0 0 0),(11,.ptr 1 0 0),(12,.int .u64 lead),(13,.int .u64 next),(14,.ptr 3 0 0),(15,.fn (.func 180) [] [.ptr 0 0 0,.ptr 1 0 0,.ptr 2 0 0,.ptr 3 0 0]),(16,.int .i64 j),(18,.int .u64 (p.1:Int)),(19,.int .u64 (p.2:Int))],RM (n+2) (lx+1) qn dl N (qT (j+1) R),6,153⟩)
     (λp=>p.1) (d0,r0) [(0,0),(1,1),(2,2),(3,3),(4,4),(5,5)] hei
     (aK _ rfl ⟨⟨0,_,rfl,rfl,cV rfl rfl⟩,aI 1 (kP _ _),⟨2,_,rfl,rfl,kR⟩,⟨3,_,rfl,rfl,cV rfl rfl⟩,aI 4 (aM _),aI 5 (aM _),trivial⟩
      ⟨aF,aN,aN,aF,aF,aN,⟨_,rfl,(.fn _ _ _ _ _ rfl rfl sq (g6.cons (.ptr 0 0 0 0 rfl) (.cons (.ptr 1 1 0 0 rfl) (.cons (.ptr 2 2 0 0 rfl) (.cons (.ptr 3 3 0 0 rfl) .nil)))).2)⟩,aF,aF,⟨_,rfl,.int y6⟩,trivial⟩) ?_
    rintro⟨d,r⟩ hI;simp only at hI |-;have hs1:((d:Int).fdiv (2 ^ min (Int.toNat 32) IntKind.u64.bits))=((d/4294967296:Nat):Int):=Bh;refine Z ?_;rw[hs1];by_cases hdB:d<4294967296
    .rw[aAj hdB];have m1:d*next<=4294967295*4294967295:=Z5 om om
     have z5:IntKind.u64.wrap ((d:Int)*(next:Int))=((d*next:Nat):Int):=by rw[<-Int.natCast_mul];exact iD om
     have z6:bits BinOp.or IntKind.u64 (IntKind.u64.wrap ((r:Int)*2 ^ min (Int.toNat 32) IntKind.u64.bits)) (u0:Int)=((r*4294967296+u0:Nat):Int):=J6 hI.rB hu0B;have g0':=g0;have y0':=y0;generalize hrZ:(r:Int)=rZ at z6 |-;generalize hnZ:(next:Int)=nZ at z5 |-;generalize huZ:(u0:Int)=uZ at z6 y0' g0' |-;generalize hdZ:(d:Int)=dZ at z5 |-;((conv=>whnf);repeat((first|refine jB.go ?_|refine eH.go ?_);conv=>whnf));rw[x1];((conv=>whnf);repeat((first|refine jB.go ?_|refine eH.go ?_);conv=>whnf));rw[x3];((conv=>whnf);repeat((first|refine jB.go ?_|refine eH.go ?_);conv=>whnf));refine aO b0 ?_;((conv=>whnf);repeat((first|refine jB.go ?_|refine eH.go ?_);conv=>whnf));refine aC g0' ?_;((conv=>whnf);repeat((first|refine jB.go ?_|refine eH.go ?_);conv=>whnf));refine aC g0' ?_
     conv=>whnf
     (first|refine jB.go ?_|refine eH.go ?_)
     conv=>whnf
     (first|refine jB.go ?_|refine eH.go ?_)
     conv=>whnf
     (first|refine jB.go ?_|refine eH.go ?_)
     conv=>whnf
     (first|refine jB.go ?_|refine eH.go ?_)
     conv=>whnf
     (first|refine jB.go ?_|refine eH.go ?_)
     conv=>whnf
     rw[y0',z5];generalize IntKind.u64.wrap (rZ*2 ^ min (Int.toNat 32) IntKind.u64.bits)=w1 at z6 |-;rw[z6];subst hrZ hnZ huZ hdZ;obtain⟨E1,hE1⟩:∃e,e=r*4294967296+u0:=⟨_,rfl⟩
     obtain⟨E2,hE2⟩:∃e,e=d*next:=⟨_,rfl⟩
     rw[<-hE1,<-hE2];generalize hcb:decide ((E2:Int)>(E1:Int))=cb;generalize (((0:Nat):Int) != 0)=b0;refine Z ?_;refine aL (λhc=>?_) (λhc=>?_)
     .have hc:r*4294967296+u0<d*next:=by
       rw[hc] at hcb;have:=Zh hcb;rw[hE1,hE2] at this;omega
      have dI:=hI.hi;have rI:=hI.rB;obtain⟨dn1,dn2,dn3⟩:=JR hest hI (.inr hc);have z1:IntKind.u64.wrap ((d:Int)-1)=((d-1:Nat):Int):=by rw[show (d:Int)-1=((d-1:Nat):Int) by omega];exact iD om
      have z2:IntKind.u64.wrap ((r:Int)+(lead:Int))=((r+lead:Nat):Int):=by rw[<-Int.natCast_add];exact iD om
      have z3:(((r+lead:Nat):Int).fdiv (2 ^ min (Int.toNat 32) IntKind.u64.bits))=(((r+lead)/4294967296:Nat):Int):=Bh;refine Z ?_;rw[z1,z2,z3];refine aL (λhc3=>?_) (λhc3=>?_)
      .have hge3:4294967296<=r+lead:=by
        rcases ZG (r+lead) 4294967296 with e|e
        .rw[aAj e] at hc3;simp at hc3
        .exact e
       obtain⟨t1,t2⟩:=Ir hest dn2 hge3;refine Z ?_;refine aJ.useN bJ [(0,0),(1,1),(2,2),(3,3),(4,4),(5,5)] (hst (d-1) t1 dn3 t2) rfl (.s (.s (.cons (.ptr 0 0 0 0 rfl) (.cons (.ptr 1 1 0 0 rfl) (.cons (.ptr 2 2 0 0 rfl) (.cons (.ptr 3 3 0 0 rfl) .nil)))))) ⟨⟨0,_,rfl,rfl,cV rfl rfl⟩,aI 1 (kP _ _),⟨2,_,rfl,rfl,kR⟩,⟨3,_,rfl,rfl,cV rfl rfl⟩,aI 4 (aM _),aI 5 (aM _),trivial⟩ rfl ?_;rintro r' m' n' ⟨rfl,rfl,rfl⟩;refine⟨[(0,0),(1,1),(2,2),(3,3),(4,4),(5,5)],.tup [],RM (n+2) (lx+1) qn dl (fW N (eZ (dg 4294967296 (U%V)) (n+2+1)) j) (qT j (U/V::R)),6,.same _ nn,⟨⟨0,_,rfl,rfl,cV rfl rfl⟩,aI 1 (kP _ _),⟨2,_,rfl,rfl,kR⟩,⟨3,_,rfl,rfl,cV rfl rfl⟩,aI 4 (aM _),aI 5 (aM _),trivial⟩,rfl, ?_⟩;refine Z ?_;exact .mk (j,fW N (eZ (dg 4294967296 (U%V)) (n+2+1)) j,U/V::R) [(0,0),(1,1),(2,2),(3,3),(4,4),(5,5)] hnew
        (aK _ rfl ⟨⟨0,_,rfl,rfl,cV rfl rfl⟩,aI 1 (kP _ _),⟨2,_,rfl,rfl,kR⟩,⟨3,_,rfl,rfl,cV rfl rfl⟩,aI 4 (aM _),aI 5 (aM _),trivial⟩
         ⟨aF,aN,aN,aF,aF,aN,⟨_,rfl,(.fn _ _ _ _ _ rfl rfl sq (g6.cons (.ptr 0 0 0 0 rfl) (.cons (.ptr 1 1 0 0 rfl) (.cons (.ptr 2 2 0 0 rfl) (.cons (.ptr 3 3 0 0 rfl) .nil)))).2)⟩,⟨_,rfl,.w64 rfl ⟨by simp only;omega,by simp only;omega⟩⟩,trivial⟩) (by simp only;omega)
      .have hlt3:r+lead<4294967296:=by
        rcases ZG (r+lead) 4294967296 with e|e
        .exact e
        .exfalso;have:=aCh e (show 0<4294967296 by decide);simp at hc3;omega
       refine Z ?_;exact .mk (d-1,r+lead) [(0,0),(1,1),(2,2),(3,3),(4,4),(5,5)] ⟨dn2,dn3,by simp only;omega,hlt3⟩
        (aK _ rfl ⟨⟨0,_,rfl,rfl,cV rfl rfl⟩,aI 1 (kP _ _),⟨2,_,rfl,rfl,kR⟩,⟨3,_,rfl,rfl,cV rfl rfl⟩,aI 4 (aM _),aI 5 (aM _),trivial⟩
         ⟨aF,aN,aN,aF,aF,aN,⟨_,rfl,(.fn _ _ _ _ _ rfl rfl sq (g6.cons (.ptr 0 0 0 0 rfl) (.cons (.ptr 1 1 0 0 rfl) (.cons (.ptr 2 2 0 0 rfl) (.cons (.ptr 3 3 0 0 rfl) .nil)))).2)⟩,aF,aF,aF,trivial⟩) (by simp only;omega)
     .have hc:d*next<=r*4294967296+u0:=by
       rw[hc] at hcb;have:=aAX hcb;rw[hE1,hE2] at this;omega
      have t2:=OD hest hI hdB hc;refine Z ?_;refine aJ.useN bJ [(0,0),(1,1),(2,2),(3,3),(4,4),(5,5)] (hst d hdB hI.up t2) rfl (.s (.s (.cons (.ptr 0 0 0 0 rfl) (.cons (.ptr 1 1 0 0 rfl) (.cons (.ptr 2 2 0 0 rfl) (.cons (.ptr 3 3 0 0 rfl) .nil)))))) ⟨⟨0,_,rfl,rfl,cV rfl rfl⟩,aI 1 (kP _ _),⟨2,_,rfl,rfl,kR⟩,⟨3,_,rfl,rfl,cV rfl rfl⟩,aI 4 (aM _),aI 5 (aM _),trivial⟩ rfl ?_;rintro r' m' n' ⟨rfl,rfl,rfl⟩;refine⟨[(0,0),(1,1),(2,2),(3,3),(4,4),(5,5)],.tup [],RM (n+2) (lx+1) qn dl (fW N (eZ (dg 4294967296 (U%V)) (n+2+1)) j) (qT j (U/V::R)),6,.same _ nn,⟨⟨0,_,rfl,rfl,cV rfl rfl⟩,aI 1 (kP _ _),⟨2,_,rfl,rfl,kR⟩,⟨3,_,rfl,rfl,cV rfl rfl⟩,aI 4 (aM _),aI 5 (aM _),trivial⟩,rfl, ?_⟩;refine Z ?_;exact .mk (j,fW N (eZ (dg 4294967296 (U%V)) (n+2+1)) j,U/V::R) [(0,0),(1,1),(2,2),(3,3),(4,4),(5,5)] hnew
       (aK _ rfl ⟨⟨0,_,rfl,rfl,cV rfl rfl⟩,aI 1 (kP _ _),⟨2,_,rfl,rfl,kR⟩,⟨3,_,rfl,rfl,cV rfl rfl⟩,aI 4 (aM _),aI 5 (aM _),trivial⟩
        ⟨aF,aN,aN,aF,aF,aN,⟨_,rfl,(.fn _ _ _ _ _ rfl rfl sq (g6.cons (.ptr 0 0 0 0 rfl) (.cons (.ptr 1 1 0 0 rfl) (.cons (.ptr 2 2 0 0 rfl) (.cons (.ptr 3 3 0 0 rfl) .nil)))).2)⟩,⟨_,rfl,.w64 rfl ⟨by simp only;omega,by simp only;omega⟩⟩,trivial⟩) (by simp only;omega)
    .rw[show (((d/4294967296:Nat):Int) != 0)=true by have:=aCh (Nat.le_of_not_lt hdB) (show 0<4294967296 by decide);simp;omega];refine Z ?_;have dI:=hI.hi;have rI:=hI.rB;obtain⟨dn1,dn2,dn3⟩:=JR hest hI (.inl (Nat.le_of_not_lt hdB));have z1:IntKind.u64.wrap ((d:Int)-1)=((d-1:Nat):Int):=by rw[show (d:Int)-1=((d-1:Nat):Int) by omega];exact iD om
     have z2:IntKind.u64.wrap ((r:Int)+(lead:Int))=((r+lead:Nat):Int):=by rw[<-Int.natCast_add];exact iD om
     have z3:(((r+lead:Nat):Int).fdiv (2 ^ min (Int.toNat 32) IntKind.u64.bits))=(((r+lead)/4294967296:Nat):Int):=Bh;refine Z ?_;rw[z1,z2,z3];refine aL (λhc3=>?_) (λhc3=>?_)
     .have hge3:4294967296<=r+lead:=by
       rcases ZG (r+lead) 4294967296 with e|e
       .rw[aAj e] at hc3;simp at hc3
       .exact e
      obtain⟨t1,t2⟩:=Ir hest dn2 hge3;refine Z ?_;refine aJ.useN bJ [(0,0),(1,1),(2,2),(3,3),(4,4),(5,5)] (hst (d-1) t1 dn3 t2) rfl (.s (.s (.cons (.ptr 0 0 0 0 rfl) (.cons (.ptr 1 1 0 0 rfl) (.cons (.ptr 2 2 0 0 rfl) (.cons (.ptr 3 3 0 0 rfl) .nil)))))) ⟨⟨0,_,rfl,rfl,cV rfl rfl⟩,aI 1 (kP _ _),⟨2,_,rfl,rfl,kR⟩,⟨3,_,rfl,rfl,cV rfl rfl⟩,aI 4 (aM _),aI 5 (aM _),trivial⟩ rfl ?_;rintro r' m' n' ⟨rfl,rfl,rfl⟩;refine⟨[(0,0),(1,1),(2,2),(3,3),(4,4),(5,5)],.tup [],RM (n+2) (lx+1) qn dl (fW N (eZ (dg 4294967296 (U%V)) (n+2+1)) j) (qT j (U/V::R)),6,.same _ nn,⟨⟨0,_,rfl,rfl,cV rfl rfl⟩,aI 1 (kP _ _),⟨2,_,rfl,rfl,kR⟩,⟨3,_,rfl,rfl,cV rfl rfl⟩,aI 4 (aM _),aI 5 (aM _),trivial⟩,rfl, ?_⟩;refine Z ?_;exact .mk (j,fW N (eZ (dg 4294967296 (U%V)) (n+2+1)) j,U/V::R) [(0,0),(1,1),(2,2),(3,3),(4,4),(5,5)] hnew
       (aK _ rfl ⟨⟨0,_,rfl,rfl,cV rfl rfl⟩,aI 1 (kP _ _),⟨2,_,rfl,rfl,kR⟩,⟨3,_,rfl,rfl,cV rfl rfl⟩,aI 4 (aM _),aI 5 (aM _),trivial⟩
        ⟨aF,aN,aN,aF,aF,aN,⟨_,rfl,(.fn _ _ _ _ _ rfl rfl sq (g6.cons (.ptr 0 0 0 0 rfl) (.cons (.ptr 1 1 0 0 rfl) (.cons (.ptr 2 2 0 0 rfl) (.cons (.ptr 3 3 0 0 rfl) .nil)))).2)⟩,⟨_,rfl,.w64 rfl ⟨by simp only;omega,by simp only;omega⟩⟩,trivial⟩) (by simp only;omega)
     .have hlt3:r+lead<4294967296:=by
       rcases ZG (r+lead) 4294967296 with e|e
       .exact e
       .exfalso;have:=aCh e (show 0<4294967296 by decide);simp at hc3;omega
      refine Z ?_;exact .mk (d-1,r+lead) [(0,0),(1,1),(2,2),(3,3),(4,4),(5,5)] ⟨dn2,dn3,by simp only;omega,hlt3⟩
       (aK _ rfl ⟨⟨0,_,rfl,rfl,cV rfl rfl⟩,aI 1 (kP _ _),⟨2,_,rfl,rfl,kR⟩,⟨3,_,rfl,rfl,cV rfl rfl⟩,aI 4 (aM _),aI 5 (aM _),trivial⟩
        ⟨aF,aN,aN,aF,aF,aN,⟨_,rfl,(.fn _ _ _ _ _ rfl rfl sq (g6.cons (.ptr 0 0 0 0 rfl) (.cons (.ptr 1 1 0 0 rfl) (.cons (.ptr 2 2 0 0 rfl) (.cons (.ptr 3 3 0 0 rfl) .nil)))).2)⟩,aF,aF,aF,trivial⟩) (by simp only;omega)
   .have hm0:m=0:=by simp at hb;omega
    subst hm0;rw[Nat.pow_zero,aAA] at k6 k7;obtain⟨z1,z2⟩:=hfin (vl 4294967296 R) (vl 4294967296 N) k6 k7;have hvN:vl 4294967296 (N.take (n+2))=vl 4294967296 N:=by
     have e1:=oQ 4294967296 N (n+2) om;have hz:vl 4294967296 (N.drop (n+2))=0:=by
      rcases ZC (vl 4294967296 (N.drop (n+2))) with e|e
      .exact e
      .exfalso;have h1:4294967296 ^ (n+2)*1<=4294967296 ^ (n+2)*vl 4294967296 (N.drop (n+2)):=Zl _ e;generalize 4294967296 ^ (n+2)*vl 4294967296 (N.drop (n+2))=P at *;have h2:V<4294967296 ^ (n+2):=v2;generalize 4294967296 ^ (n+2)=W at *;clear w1 w2 hX0;omega
     rw[hz,aAx,Zm] at e1;exact e1.symm
    have hlow:=OF N (n+2) s s1 om om k3;rw[hvN,z2] at hlow;have hz1:fB R=dg 4294967296 (x/y):=by rw[kI hB R k5,z1]
    have hsl2:(Nat.ble 0 ((n+2:Nat):Int).toNat && (Nat.ble ((n+2:Nat):Int).toNat (lx+1) && Nat.ble (lx+1) (lx+1)))=true:=by
     rw[Yy,Y3 (aAp _),Y3 om,Y3 (Y8 _)];rfl
    clear w1 w2 hX0 k6 k7 v2 hfin;refine Z ?_;refine aO hsl2 ?_;refine Z ?_;repeat((first|refine aY ?_|refine aO hsl2 ?_|rw[ez]);refine Z ?_)
    have hR0:qT 0 R=R:=by simp[qT]
    rw[hR0];refine aJ.pre bJ [(0,0),(1,1),(2,2),(3,3),(4,4)] (mem':=[(0,.row 30 1 [.sl 4 0 (lx+1)]),(1,.row 3 1 [.int .i64 ((n+2:Nat):Int)]),(2,.row 30 1 [.il 1 (bB dl)]),(3,.row 30 1 [.il 1 (bB R)]),(4,.row 157 1 (bB N))]) rfl
     ⟨⟨0,_,rfl,rfl,cV rfl rfl⟩,aI 1 (kP _ _),⟨2,_,rfl,rfl,kR⟩,⟨3,_,rfl,rfl,.cons (.one rfl rfl (.fz' (id:=5) rfl rfl (by rw[aU,k4];omega) (by rw[ZU,Y9 (by rw[aU,k4];omega)]) (aM _))) .nil⟩,aI 4 (aM _),trivial⟩
     (.cons (.fz' (id:=5) (ys:=bB R) rfl rfl (by rw[aU,k4];omega) (by rw[ZU,Y9 (by rw[aU,k4];omega)]) (aM _)) .nil) ?_
    refine(Ad R om).go ?_ (.cons (.il' (aM _)) .nil) (.il' (aM _));rw[hz1];refine Z ?_;repeat((first|refine aY ?_|refine aO hsl2 ?_|rw[ez]);refine Z ?_)
    obtain⟨Rz,hRr⟩:∃Rz,Rz=eZ (dg 4294967296 (x%y)) (n+2)++N.drop (n+2):=⟨_,rfl⟩
    rw[<-hRr] at hlow;refine aJ.useN bJ [(4,0)] hlow rfl (.cons (.sl 4 0 0 _ rfl) (.s .nil)) ⟨aI 4 (aM _),trivial⟩ rfl ?_;rintro r' m' n' ⟨rfl,rfl,rfl⟩;refine⟨[(0,4)],.sl 4 0 (n+2),[(4,.row 157 1 (bB Rz))],16,.sl 0 4 0 _ rfl,⟨aI 0 (aM _),trivial⟩,rfl, ?_⟩;refine Z ?_;repeat((first|refine aY ?_|refine aO hsl2 ?_|rw[ez]);refine Z ?_)
    have hpl:(eZ (dg 4294967296 (x%y)) (n+2)).length=n+2:=jP (Zj (dO hB (aBa (Zx x hy0))) om);have hRl:Rz.length=lx+1:=by rw[hRr,ZA,hpl,aAG,k2];omega
    have hRt:Rz.take (n+2)=eZ (dg 4294967296 (x%y)) (n+2):=by rw[hRr,aAb om,Y9 om]
    have hto:=VB Rz (n+2) om om;have hpx:=AC (Rz.take (n+2));rw[hRt,Cn] at hto hpx;have hln:(dg 4294967296 (x%y)).length<=n+2:=Zj (dO hB (aBa (Zx x hy0))) om;rw[<-hRt,aBe,Z1 hln] at hpx;generalize dg 4294967296 (x%y)=rl at *;refine aJ.useN bJ [(4,0)] hto rfl (.cons (.sl 4 0 0 _ rfl) .nil) ⟨aI 4 (aM _),trivial⟩ rfl ?_;rintro r' m' n' ⟨rfl,rfl,rfl⟩;refine⟨[(0,4)],.sl 4 0 rl.length,[(4,.row 157 1 (bB Rz))],17,.sl 0 4 0 _ rfl,⟨aI 0 (aM _),trivial⟩,rfl, ?_⟩;refine Z ?_;repeat((first|refine aY ?_|refine aO hsl2 ?_|rw[ez]);refine Z ?_)
    exact cW (r':=.tup [.il 1 (bB (dg 4294967296 (x/y))),.il 1 (bB rl)]) (.tup' (.cons (.same _ (.il' (aM _))) (.cons (.fz' (id:=4) rfl rfl (by rw[aU];omega) (by rw[ZU,NS,<-hpx]) (aM _)) .nil))) ⟨rfl,rfl,rfl⟩
theorem tB(b:Bool):NN (.bool b):=.bool b
theorem tU(l:List Nat):NN (.il 1 (bB l)):=.il' (aM l)
theorem KN(n:Nat):fB (dg 4294967296 n)=dg 4294967296 n:=by
 have hB:(2:Nat)<=4294967296:=by decide
 rw[kI hB _ (l6 hB n),mO hB]
theorem v7(neg:Bool)(n:Nat):fI (sg neg n) = .agg [.bool (neg && decide (0<n)),.il 1 (bB (dg 4294967296 n))]:=by
 unfold fI;rw[P6,Tu]
theorem y7(neg:Bool)(n:Nat)(hn:(dg 4294967296 n).length<=4294967296):aX prog [] 115 [.bool neg,.il 1 (bB (dg 4294967296 n))] (fI (sg neg n)):=by
 have ht:=Ad (dg 4294967296 n) hn;rw[KN] at ht;have hw:=kQ (sg neg n);have hz:=n6 (B:=4294967296) (n:=n) (by decide);rw[v7] at hw |-;generalize dg 4294967296 n=l at *;refine aG bJ func115 rfl ?_;refine Z ?_;refine ht.go ?_ (.cons (tU _) .nil) (tU _);have hlz:decide (((bB l).length:Int)>0)=decide (0<n):=by
  rw[aU,<-hz,Zp];omega
 cases neg with
 | false=>
  refine Rt ?_;exact aA hw ⟨rfl,rfl,rfl⟩
 | true=>
  refine Z ?_;rw[hlz];refine Rs ?_;exact aA hw ⟨rfl,rfl,rfl⟩
theorem LL:fI 0 = .agg [.bool false,.il 1 []]:=by simp[fI,fP,bB]
def B2(z:Int):AV:=if iR z=true then .tup [fI z,.int .i64 0] else .tup [fI 0,.int .i64 4]
theorem CT(z:Int):NN (B2 z):=by
 unfold B2;split
 .exact .tup' (.cons (kQ _) (.cons nn .nil))
 .exact .tup' (.cons (kQ _) (.cons nn .nil))
theorem RV(neg:Bool)(n:Nat)(hn:(dg 4294967296 n).length<=4294967296):aX prog [] 242 [.bool neg,.il 1 (bB (dg 4294967296 n))] (B2 (sg neg n)):=by
 have hm:=y7 neg n hn;have hw:=kQ (sg neg n);have hr:=CT (sg neg n);have hf:iR (sg neg n)=decide ((dg 4294967296 n).length<=512):=by have:=@CX (sg neg n);rw[P6] at this;exact this
 rw[v7] at hm hw;have hR:B2 (sg neg n)=if iR (sg neg n)=true then .tup [.agg [.bool (neg && decide (0<n)),.il 1 (bB (dg 4294967296 n))],.int .i64 0] else .tup [.agg [.bool false,.il 1 []],.int .i64 4]:=by rw[<-v7,<-LL];rfl
 rw[hR] at hr |-;refine aG bJ func242 rfl ?_;refine Z ?_;refine hm.go ?_ (.cons (tB _) (.cons (tU _) .nil)) hw;refine Z ?_;rw[aU];refine aL (λhb=>?_) (λhb=>?_)
 .have hb:¬iR (sg neg n)=true:=by
   rw[hf];simp at hb;simp;omega
  rw[Yz hb] at hr |-;refine Z ?_;exact cW (r':=.tup [.agg [.bool false,.il 1 []],.int .i64 4]) (.tup' (.cons (.agg' (.cons (.same _ (tB _)) (.cons (.nil 1) .nil))) (.s .nil))) ⟨rfl,rfl,rfl⟩
 .have hb:iR (sg neg n)=true:=by
   rw[hf];simp at hb;simp;omega
  rw[Y4 hb] at hr |-;refine Rt ?_;exact aA hr ⟨rfl,rfl,rfl⟩
theorem g9(x:Int):fI x = .agg [.bool (decide (x<0)),.il 1 (bB (dg 4294967296 x.natAbs))]:=rfl
theorem Ts(x:Int):sg (!decide (x<0)) x.natAbs = -x:=by
 unfold sg;by_cases h:x<0
 .simp[h];omega
 .simp[h];omega
theorem Uv(x y:Int):sg (decide (x<0) != decide (y<0)) (x.natAbs*y.natAbs)=x*y:=by
 have ex:=QU x;have ey:=QU y
 conv=>rhs;rw[<-ex,<-ey]
 generalize decide (x<0)=a;generalize decide (y<0)=b;cases a<;>cases b<;>simp[sg,Int.neg_mul,aBA]
theorem d6(b:Bool)(l:List Nat):NN (.agg [.bool b,.il 1 (bB l)]):=.agg' (.cons (tB _) (.cons (tU _) .nil))
theorem Wh(x:Int)(hx:(dg 4294967296 x.natAbs).length<=1000000):aX prog [] 240 [fI x] (fI (-x)):=by
 have hm:=y7 (!decide (x<0)) x.natAbs om;rw[Ts,g9 (-x)] at hm;rw[g9 x,g9 (-x)];generalize decide (-x<0)=b2 at *;generalize dg 4294967296 (-x).natAbs=a2 at *;generalize dg 4294967296 x.natAbs=a at *;generalize decide (x<0)=b at *;refine aG bJ func240 rfl ?_;refine Z ?_;refine hm.go ?_ (.cons (tB _) (.cons (tU _) .nil)) (d6 _ _);refine Rt ?_;exact aA (d6 _ _) ⟨rfl,rfl,rfl⟩
theorem Tr(x y:Int)(hx:(dg 4294967296 x.natAbs).length<=1000000)(hy:(dg 4294967296 y.natAbs).length<=1000000):aX prog [] 198 [fI x,fI y] (fI (Nat.gcd x.natAbs y.natAbs:Nat)):=by
 have hB:(2:Nat)<=4294967296:=by decide
 rw[g9 x,g9 y];generalize decide (x<0)=bx;generalize decide (y<0)=by_;generalize x.natAbs=a at *;generalize y.natAbs=b at *;obtain⟨g,hg⟩:∃g,g=Nat.gcd a b:=⟨_,rfl⟩
 rw[<-hg];refine aG bJ func198 rfl ?_;refine Rt ?_;refine bI.at bJ (λp:Nat × Nat=>(dg 4294967296 p.1).length<=1000000/\(dg 4294967296 p.2).length<=1000000/\Nat.gcd p.1 p.2=g)
  (λp=>⟨[(4,.ptr 0 0 0),(5,.il 1 (bB (dg 4294967296 p.1))),(6,.il 1 (bB (dg 4294967296 p.2)))],[(0,.row 32 2 [.agg [.bool false,.nsl]])],1,26⟩)
  (λp=>p.2) (a,b) [(2,0)] ⟨hx,hy,hg.symm⟩
  (aK _ rfl ⟨aI 2 (.cons (.agg' (.cons (tB _) (.cons .nsl .nil))) .nil),trivial⟩ ⟨aN,aP (tU _),aP (tU _),trivial⟩) ?_
 rintro⟨u,v⟩ ⟨h1,h2,h3⟩;simp only at h1 h2 h3 |-;have hz:=n6 (B:=4294967296) (n:=v) hB;have hlz:decide (((bB (dg 4294967296 v)).length:Int)>0)=decide (0<v):=by
  rw[aU,<-hz,Zp];omega
 by_cases hv:0<v
 .have hd:=MK u v hv h1 h2;have hm:=LZ hB u v;have hmlt:=Zx u hv;have hgs:=Pp u v;generalize u%v=w at *;generalize dg 4294967296 (u/v)=qq at *;generalize hlu:dg 4294967296 u=lu at *;generalize hlv:dg 4294967296 v=lv at *;generalize hlw:dg 4294967296 w=lw at *;refine Z ?_;rw[hlz,Y7 hv];refine Z ?_;refine hd.go ?_ (.cons (tU _) (.cons (tU _) .nil)) (.tup' (.cons (tU _) (.cons (tU _) .nil)));refine Z ?_;exact .mk (v,w) [(0,0)] ⟨by simp only;rw[hlv];exact h2,by simp only;rw[hlw];omega,by simp only;rw[hgs];exact h3⟩
   (aK _ rfl ⟨aI 0 (.cons (.agg' (.cons (tB _) (.cons .nsl .nil))) .nil),trivial⟩ ⟨aN,⟨_,rfl,.eq (tU _) (by rw[hlv])⟩,⟨_,rfl,.eq (tU _) (by rw[hlw])⟩,trivial⟩) (by simp only;omega)
 .have hv0:v=0:=om;have hm:=y7 false u om;rw[v7] at hm;rw[hv0,Nat.gcd_zero_right] at h3;have hsg:fI ((g:Nat):Int) = .agg [.bool (false && decide (0<u)),.il 1 (bB (dg 4294967296 u))]:=by
   rw[<-h3,<-v7];rfl
  rw[hsg];generalize decide (0<u)=du at *;generalize dg 4294967296 u=lu at *;generalize dg 4294967296 v=lv at *;refine Z ?_;rw[hlz,ZN hv];refine Z ?_;refine hm.go ?_ (.cons (tB _) (.cons (tU _) .nil)) (d6 _ _);refine Rt ?_;exact aA (d6 _ _) ⟨rfl,rfl,rfl⟩
theorem QX(z:Int):∃(b:Bool) (l:List Nat) (e:Int),B2 z = .tup [.agg [.bool b,.il 1 (bB l)],.int .i64 e]:=by
 unfold B2;split
 .exact⟨_,_,_,rfl⟩
 .exact⟨_,_,_,rfl⟩
theorem Th(x y:Int)(hx:(dg 4294967296 x.natAbs).length<=1000000)(hy:(dg 4294967296 y.natAbs).length<=1000000):aX prog [] 205 [fI x,fI y] (B2 (x*y)):=by
 have hm:=Xm x.natAbs y.natAbs hx hy;have hr:=RV (decide (x<0) != decide (y<0)) (x.natAbs*y.natAbs) (by have:=G9 (B:=4294967296) (by decide) x.natAbs y.natAbs;omega);rw[Uv] at hr;obtain⟨b,l,e,he⟩:=QX (x*y);rw[he] at hr |-;rw[g9 x,g9 y];generalize dg 4294967296 (x.natAbs*y.natAbs)=ab at *;generalize dg 4294967296 x.natAbs=a1 at *;generalize dg 4294967296 y.natAbs=a2 at *;generalize decide (x<0)=b1 at *;generalize decide (y<0)=b2 at *;refine aG bJ func205 rfl ?_;refine Rt ?_;refine hm.go ?_ (.cons (tU _) (.cons (tU _) .nil)) (tU _);refine Rt ?_;refine hr.go ?_ (.cons (tB _) (.cons (tU _) .nil)) (.tup' (.cons (d6 _ _) (.cons nn .nil)));refine Rt ?_;exact aA (.tup' (.cons (d6 _ _) (.cons nn .nil))) ⟨rfl,rfl,rfl⟩
theorem Re{x y:Int}:dY x y=if decide (x<0)=true/\decide (y<0)=true then dY (y.natAbs:Int) (x.natAbs:Int) else if decide (x<0)=true then -1 else if decide (y<0)=true then 1 else dY (x.natAbs:Int) (y.natAbs:Int):=by
 by_cases h1:x<0<;>by_cases h2:y<0
 .rw[Y4 ⟨Y7 h1,Y7 h2⟩];unfold dY;split<;>split<;>(try split)<;>(try split)<;>omega
 .rw[Yz (by rw[ZN h2];simp),Y4 (Y7 h1)];unfold dY;rw[Y4 om]
 .rw[Yz (by rw[ZN h1];simp),Yz (by rw[ZN h1];simp),Y4 (Y7 h2)];unfold dY;rw[Yz om,Y4 om]
 .rw[Yz (by rw[ZN h1];simp),Yz (by rw[ZN h1];simp),Yz (by rw[ZN h2];simp)];unfold dY;split<;>split<;>(try split)<;>(try split)<;>omega
theorem If(x y:Int)(hx:(dg 4294967296 x.natAbs).length<=1000000)(hy:(dg 4294967296 y.natAbs).length<=1000000):aX prog [] 52 [fI x,fI y] (.int .i64 (dY x y)):=by
 have h1:=Tl x.natAbs y.natAbs om;have h2:=Tl y.natAbs x.natAbs om;rw[Re (x:=x) (y:=y),g9 x,g9 y];generalize dY (x.natAbs:Int) (y.natAbs:Int)=c1 at *;generalize dY (y.natAbs:Int) (x.natAbs:Int)=c2 at *;generalize dg 4294967296 x.natAbs=a1 at *;generalize dg 4294967296 y.natAbs=a2 at *;generalize decide (x<0)=b1 at *;generalize decide (y<0)=b2 at *;refine aG bJ func52 rfl ?_;cases b1<;>cases b2
 .refine Z ?_;refine h1.go ?_ (.cons (tU _) (.cons (tU _) .nil)) nn;refine Z ?_;exact aA nn ⟨rfl,rfl,rfl⟩
 .refine Z ?_;exact aA nn ⟨rfl,rfl,rfl⟩
 .refine Z ?_;exact aA nn ⟨rfl,rfl,rfl⟩
 .refine Z ?_;refine h2.go ?_ (.cons (tU _) (.cons (tU _) .nil)) nn;refine Z ?_;exact aA nn ⟨rfl,rfl,rfl⟩
theorem MH(x:Int)(hx:(dg 4294967296 x.natAbs).length<=1000000):aX prog [] 53 [fI x] (.int .i64 (dY x 0)):=by
 have hc:=If x 0 hx (by rw[Int.natAbs_zero,fP];simp);rw[LL,g9 x] at hc;rw[g9 x];generalize dg 4294967296 x.natAbs=a1 at *;generalize decide (x<0)=b1 at *;refine aG bJ func53 rfl ?_;refine Z ?_;refine aJ.pre bJ [] (mem':=[]) rfl trivial (.cons (.same _ (d6 _ _)) (.cons (.agg' (.cons (.same _ (tB _)) (.cons (.nil 1) .nil))) .nil)) ?_;refine hc.go ?_ (.cons (d6 _ _) (.cons (d6 _ []) .nil)) nn;refine Z ?_;exact aA nn ⟨rfl,rfl,rfl⟩
theorem DQ{x y q r:Int}(hy:y≠0)(h:r+y*q=x)(h0:0<=r)(h1:r<y.natAbs):x/y=q/\x%y=r:=by
 rcases aCa y 0 with hn|hn
 .obtain⟨b,rfl⟩:∃b,y = -b:=⟨-y,om⟩
  have:=(Int.ediv_emod_unique (a:=x) (b:=b) (r:=r) (q:=-q) om).2 ⟨by rw[aBA,<-Int.neg_mul];exact h,h0,om⟩;rw[Int.ediv_neg,Int.emod_neg,this.1,this.2];exact⟨om,rfl⟩
 .exact(Int.ediv_emod_unique om).2 ⟨h,h0,om⟩
theorem NO{x y:Int}(hy:y≠0):(decide (x<0)=true/\0<x.natAbs%y.natAbs->x/y=sg (decide (x<0) != decide (y<0)) (x.natAbs/y.natAbs+1)/\x%y=((y.natAbs-x.natAbs%y.natAbs:Nat):Int)) /\
  (¬(decide (x<0)=true/\0<x.natAbs%y.natAbs)->x/y=sg (decide (x<0) != decide (y<0)) (x.natAbs/y.natAbs)/\x%y=((x.natAbs%y.natAbs:Nat):Int)):=by
 have hyp:0<y.natAbs:=aBZ.2 hy;have hd:=aBv x.natAbs y.natAbs;have hm:=Zx x.natAbs hyp;have hd2:(y.natAbs:Int)*((x.natAbs/y.natAbs:Nat):Int)+((x.natAbs%y.natAbs:Nat):Int)=(x.natAbs:Int):=by rw[<-Int.natCast_mul,<-Int.natCast_add,hd]
 generalize x.natAbs/y.natAbs=Q at *;generalize x.natAbs%y.natAbs=R at *;constructor
 .rintro⟨h1,h2⟩;have h1:=Zh h1;refine DQ hy ?_ om om;rw[Y7 h1];rcases aCa y 0 with hn|hn
  .rw[Y7 hn];rw[show (y.natAbs:Int) = -y by omega,Int.neg_mul] at hd2;simp only[sg,bne_self_eq_false,aAl,if_false,Int.natCast_add,Int.mul_add,Int.natCast_one,Int.mul_one];generalize y*(Q:Int)=P at *;omega
  .rw[ZN om];rw[show (y.natAbs:Int)=y by omega] at hd2;simp only[sg,Bool.true_bne,Bool.not_false,if_true,Int.natCast_add,aBA,Int.mul_add,Int.natCast_one,Int.mul_one];generalize y*(Q:Int)=P at *;omega
 .intro h;refine DQ hy ?_ om om;by_cases h1:x<0
  .have hR:R=0:=by
    rcases ZC R with e|e
    .exact e
    .exact absurd ⟨Y7 h1,e⟩ h
   subst hR;rw[Y7 h1];rcases aCa y 0 with hn|hn
   .rw[Y7 hn];rw[show (y.natAbs:Int) = -y by omega,Int.neg_mul] at hd2;simp only[sg,bne_self_eq_false,aAl,if_false];generalize y*(Q:Int)=P at *;omega
   .rw[ZN om];rw[show (y.natAbs:Int)=y by omega] at hd2;simp only[sg,Bool.true_bne,Bool.not_false,if_true,aBA];generalize y*(Q:Int)=P at *;omega
  .rw[ZN h1];rcases aCa y 0 with hn|hn
   .rw[Y7 hn];rw[show (y.natAbs:Int) = -y by omega,Int.neg_mul] at hd2;simp only[sg,Bool.false_bne,if_true,aBA];generalize y*(Q:Int)=P at *;omega
   .rw[ZN om];rw[show (y.natAbs:Int)=y by omega] at hd2;simp only[sg,bne_self_eq_false,aAl,if_false];generalize y*(Q:Int)=P at *;omega
theorem UW(x y:Int)(hy0:y≠0)(hx:(dg 4294967296 x.natAbs).length<=900000)(hy:(dg 4294967296 y.natAbs).length<=900000):aX prog [] 51 [fI x,fI y] (.tup [fI (x/y),fI (x%y),.int .i64 0]):=by
 have hB:(2:Nat)<=4294967296:=by decide
 have hyp:0<y.natAbs:=aBZ.2 hy0;have hd:=MK x.natAbs y.natAbs hyp om om;have hs:=NO (x:=x) hy0;have hrl:decide (0<(dg 4294967296 (x.natAbs%y.natAbs)).length)=decide (0<x.natAbs%y.natAbs):=n6 hB;have hq1:=CP hB x.natAbs y.natAbs;have hm:=Zx x.natAbs hyp;have hr1:=LZ hB x.natAbs y.natAbs;have ha:=Xq (x.natAbs/y.natAbs) 1 om (by rw[qV hB (by decide)];simp[fP]);have hsu:=X6 y.natAbs (x.natAbs%y.natAbs) (aBa hm) om;have hq2:=Q9 hB (x.natAbs/y.natAbs) 1;have hr2:=Ra hB y.natAbs (x.natAbs%y.natAbs);have hone:dg 4294967296 1=[1]:=by rw[qV hB (by decide)];simp[fP]
 rw[hone] at ha hq2;have m1:=y7 (decide (x<0) != decide (y<0)) (x.natAbs/y.natAbs) om;have m2:=y7 (decide (x<0) != decide (y<0)) (x.natAbs/y.natAbs+1) (by simp at hq2;omega);have m3:=y7 false (x.natAbs%y.natAbs) om;have m4:=y7 false (y.natAbs-x.natAbs%y.natAbs) om;have hyl:∃c cs,dg 4294967296 y.natAbs=c::cs:=⟨_,_,qV hB hyp⟩
 obtain⟨c,cs,hyl⟩:=hyl;have e1:∀n:Nat,sg false n=(n:Int):=λn=>rfl
 rw[e1] at m3 m4;obtain⟨hs1,hs2⟩:=hs;have aq:=g9 (x/y);have ar:=g9 (x%y);rw[aq,ar,g9 x,g9 y];rw[hyl] at hd hsu |-;clear hq1 hr1 hq2 hr2 hx hy hm;generalize dg 4294967296 (x.natAbs/y.natAbs)=lq at *;generalize dg 4294967296 (x.natAbs/y.natAbs+1)=lq1 at *;generalize dg 4294967296 (x.natAbs%y.natAbs)=lr at *;generalize dg 4294967296 (y.natAbs-x.natAbs%y.natAbs)=lr1 at *;generalize dg 4294967296 (x/y).natAbs=lz1 at *;generalize dg 4294967296 (x%y).natAbs=lz2 at *;generalize decide (x/y<0)=bz1 at *;generalize decide (x%y<0)=bz2 at *;generalize dg 4294967296 x.natAbs=a1 at *;generalize decide (x<0)=b1 at *;generalize decide (y<0)=b2 at *;have hlen:(bB lr).length=lr.length:=aU lr;refine aG bJ func51 rfl ?_;refine Rt ?_;refine hd.go ?_ (.cons (tU _) (.cons (tU _) .nil)) (.tup' (.cons (tU _) (.cons (tU _) .nil)));refine Rt ?_;have fin:∀(x y z:Bool) (l m:List Nat),True:=λ_ _ _ _ _=>trivial
 cases b1 with
 | false=>
  obtain⟨q1,q2⟩:=hs2 sq;rw[<-q1,aq] at m1;rw[<-q2,ar] at m3;refine Z ?_;refine m1.go ?_ (.cons (tB _) (.cons (tU _) .nil)) (d6 _ _);refine Rt ?_;refine m3.go ?_ (.cons (tB _) (.cons (tU _) .nil)) (d6 _ _);refine Rt ?_;exact aA (.tup' (.cons (d6 _ _) (.cons (d6 _ _) (.cons nn .nil)))) ⟨rfl,rfl,rfl⟩
 | true=>
  cases lr with
  | nil=>
   have h0:¬0<x.natAbs%y.natAbs:=su hrl
   obtain⟨q1,q2⟩:=hs2 (λh=>h0 h.2);rw[<-q1,aq] at m1;rw[<-q2,ar] at m3;refine Z ?_;refine m1.go ?_ (.cons (tB _) (.cons (tU _) .nil)) (d6 _ _);refine Rt ?_;refine m3.go ?_ (.cons (tB _) (.cons (tU _) .nil)) (d6 _ _);refine Rt ?_;exact aA (.tup' (.cons (d6 _ _) (.cons (d6 _ _) (.cons nn .nil)))) ⟨rfl,rfl,rfl⟩
  | cons r0 rs=>
   have h0:0<x.natAbs%y.natAbs:=su hrl
   obtain⟨q1,q2⟩:=hs1 ⟨rfl,h0⟩;rw[<-q1,aq] at m2;rw[<-q2,ar] at m4;refine Rt ?_;refine aL (λh=>?_) (λh=>absurd h (by simp[bB]));refine Z ?_;refine aJ.pre bJ [(0,0),(1,1),(2,2),(3,3)] (mem':=[(0,.row 32 2 [.agg [.bool true,.il 1 (bB a1)]]),(1,.row 32 2 [.agg [.bool b2,.il 1 (bB (c::cs))]]),(2,.row 32 2 [.agg [.bool false,.nsl]]),(3,.row 32 2 [.agg [.bool false,.nsl]])]) rfl
    ⟨aI 0 (.cons (d6 _ _) .nil),aI 1 (.cons (d6 _ _) .nil),aI 2 (.cons (.agg' (.cons (tB _) (.cons nn .nil))) .nil),aI 3 (.cons (.agg' (.cons (tB _) (.cons nn .nil))) .nil),trivial⟩
    (.cons (.same _ (tU _)) (.cons (.fz' (id:=4) (off:=0) (len:=1) (xs:=[.int .u32 1]) (ys:=bB [1]) rfl rfl (Y8 1) rfl (aM [1])) .nil)) ?_
   refine ha.go ?_ (.cons (tU _) (.cons (tU _) .nil)) (tU _);refine Rt ?_;refine hsu.go ?_ (.cons (tU _) (.cons (tU _) .nil)) (tU _);refine Rt ?_;refine m2.go ?_ (.cons (tB _) (.cons (tU _) .nil)) (d6 _ _);refine Rt ?_;refine m4.go ?_ (.cons (tB _) (.cons (tU _) .nil)) (d6 _ _);refine Rt ?_;exact aA (.tup' (.cons (d6 _ _) (.cons (d6 _ _) (.cons nn .nil)))) ⟨rfl,rfl,rfl⟩
theorem T8(neg:Bool)(l:List Nat)(hl:l.length<=4294967296):aX prog [] 115 [.bool neg,.il 1 (bB l)] (.agg [.bool (neg && decide (0<(fB l).length)),.il 1 (bB (fB l))]):=by
 have ht:=Ad l hl;generalize fB l=z at *;refine aG bJ func115 rfl ?_;refine Z ?_;refine ht.go ?_ (.cons (tU _) .nil) (tU _);have hlz:decide (((bB z).length:Int)>0)=decide (0<z.length):=by
  rw[aU,Zp];omega
 cases neg with
 | false=>
  refine Rt ?_;exact aA (d6 _ _) ⟨rfl,rfl,rfl⟩
 | true=>
  refine Z ?_;rw[hlz];refine Rs ?_;exact aA (d6 _ _) ⟨rfl,rfl,rfl⟩
theorem Pm(neg:Bool)(m:Nat)(hm:m<18446744073709551616):fB [m%4294967296,m/4294967296]=dg 4294967296 m/\AV.agg [.bool (neg && decide (0<(fB [m%4294967296,m/4294967296]).length)),.il 1 (bB (fB [m%4294967296,m/4294967296]))]=fI (sg neg m):=by
 have e:fB [m%4294967296,m/4294967296]=dg 4294967296 m:=by
  rw[kI (B:=4294967296) (by decide) _ (by intro d hd;simp at hd;omega)];congr 1;simp[vl];omega
 refine⟨e, ?_⟩;rw[e,v7,n6 (by decide)]
theorem LC(n:Int)(hn:i64 n):aX prog [] 92 [.int .i64 n] (fI n):=by
 have hn':=hn;obtain⟨hn1,hn2⟩:=hn';have hm:=T8 (decide (n<0)) [n.natAbs%4294967296,n.natAbs/4294967296] sq;have h2:=(Pm (decide (n<0)) n.natAbs om).2;rw[h2,QU] at hm;rw[g9 n] at hm |-;generalize dg 4294967296 n.natAbs=l at *;have hM:n.natAbs<18446744073709551616:=om;have x1:IntKind.u32.wrap (n.natAbs:Int)=((n.natAbs%4294967296:Nat):Int):=Uy _;have x2:IntKind.u32.wrap ((n.natAbs:Int).fdiv (2 ^ 32))=((n.natAbs/4294967296:Nat):Int):=by rw[Bh,Ig om]
 have step:∀(X:Int),X=(n.natAbs:Int)->bB [n.natAbs%4294967296,n.natAbs/4294967296]=[AV.int IntKind.u32 (IntKind.u32.wrap X),AV.int IntKind.u32 (IntKind.u32.wrap (X.fdiv (2 ^ 32)))]:=λX hX=>by rw[hX,x1,x2];rfl
 refine aG bJ func92 rfl ?_;refine Z ?_;refine aL (λhb=>?_) (λhb=>?_)
 .rw[hb] at hm |-;have hs:=step (IntKind.u64.wrap (0-IntKind.u64.wrap n)) (by have:=Zh hb;rw[jW,jW];omega);refine Z ?_;rw[hb];refine aJ.pre bJ [(0,0)] (mem':=[(0,.row 32 2 [.agg [.bool false,.nsl]])]) rfl ⟨aI 0 (.cons (.agg' (.cons (tB _) (.cons nn .nil))) .nil),trivial⟩
   (.cons (.same _ (tB _)) (.cons (.fz' (id:=1) (off:=0) (len:=2) (ys:=bB [n.natAbs%4294967296,n.natAbs/4294967296]) rfl rfl (Y8 2) hs.symm (aM _)) .nil)) ?_
  refine hm.go ?_ (.cons (tB _) (.cons (tU _) .nil)) (d6 _ _);refine Rt ?_;exact aA (d6 _ _) ⟨rfl,rfl,rfl⟩
 .rw[hb] at hm |-;have hs:=step (IntKind.u64.wrap n) (by have:=aAX hb;rw[jW];omega);generalize IntKind.u64.wrap n=X at *;refine Z ?_;rw[hb];refine aJ.pre bJ [(0,0)] (mem':=[(0,.row 32 2 [.agg [.bool false,.nsl]])]) rfl ⟨aI 0 (.cons (.agg' (.cons (tB _) (.cons nn .nil))) .nil),trivial⟩
   (.cons (.same _ (tB _)) (.cons (.fz' (id:=1) (off:=0) (len:=2) (ys:=bB [n.natAbs%4294967296,n.natAbs/4294967296]) rfl rfl (Y8 2) hs.symm (aM _)) .nil)) ?_
  refine hm.go ?_ (.cons (tB _) (.cons (tU _) .nil)) (d6 _ _);refine Rt ?_;exact aA (d6 _ _) ⟨rfl,rfl,rfl⟩
theorem Ye:jU [.agg [.bool false,.nsl,.bool false,.nsl]]:=.cons (.agg' (.cons (X8 _) (.cons .nsl (.cons (X8 _) (.cons .nsl .nil))))) .nil
structure LF(n:Nat)(a:Fr):Prop where
 num:(dg 10000 a.p.natAbs).length<=n
 den:(dg 10000 a.q).length<=n
theorem Nv{p q:Int}(h:q≠0):0<Nat.gcd p.natAbs q.natAbs:=aAg _ (aBZ.2 h)
theorem hW:(2:Nat)<=4294967296:=by decide
theorem dD(z:Int):∃b l,fI z = .agg [.bool b,.il 1 (bB l)]:=⟨_,_,rfl⟩
theorem YH:jU [.agg [.bool false,.nsl]]:=nN false
def lR(a:Fr):AV:=.agg [.bool (decide (a.p<0)),.il 1 (bB (dg 4294967296 a.p.natAbs)),.bool (decide ((a.q:Int)<0)),.il 1 (bB (dg 4294967296 (a.q:Int).natAbs))]
theorem zA(b c:Bool)(l m:List Nat):NN (.agg [.bool b,.il 1 (bB l),.bool c,.il 1 (bB m)]):=.agg' (.cons (tB _) (.cons (tU _) (.cons (tB _) (.cons (tU _) .nil))))
theorem wX(a:Fr):NN (lR a):=zA _ _ _ _
theorem fH(a:Fr):∃b l c m,fI a.p = .agg [.bool b,.il 1 (bB l)]/\fI (a.q:Int) = .agg [.bool c,.il 1 (bB m)]/\lR a = .agg [.bool b,.il 1 (bB l),.bool c,.il 1 (bB m)]:=⟨_,_,_,_,rfl,rfl,rfl⟩
def Qn:Fr:=⟨0,0⟩
theorem PN:lR Qn = .agg [.bool false,.il 1 [],.bool false,.il 1 []]:=by simp[lR,Qn,fP,bB]
theorem TN{mem:aQ}{J:List (Nat × Nat)}:Cv mem J (.agg [.bool false,.nsl,.bool false,.nsl]) (.agg [.bool false,.il 1 [],.bool false,.il 1 []]):=
 .agg' (.cons (.same _ (tB _)) (.cons (.nil 1) (.cons (.same _ (tB _)) (.cons (.nil 1) .nil))))
theorem UE{mem:aQ}{J:List (Nat × Nat)}:Cv mem J (.agg [.bool false,.nsl]) (.agg [.bool false,.il 1 []]):=.agg' (.cons (.same _ (tB _)) (.cons (.nil 1) .nil))
structure LP(n:Nat)(a:Fr):Prop where
 num:(dg 4294967296 a.p.natAbs).length<=n
 den:(dg 4294967296 a.q).length<=n
theorem ID(x y:Int)(hx:iR x=true)(hy:(dg 4294967296 y.natAbs).length<=1000000):aX prog [] 199 [.il 2 [fI x,fI y]] (B2 (x*y)):=by
 have hxl:(dg 4294967296 x.natAbs).length<=512:=GA hx;have h0:=LC ((1:Nat):Int) oq;have h1:=Th ((1:Nat):Int) x (by have:(dg 4294967296 1).length<=1:=NH hW (by decide);rw[Zb];omega) om;rw[show ((1:Nat):Int)*x=x by omega] at h1;have e1:B2 x = .tup [fI x,.int .i64 0]:=by unfold B2;rw[Y4 hx]
 rw[e1] at h1;have h2:=Th x y om hy;have hr:B2 (x*y)=if iR (x*y)=true then .tup [fI (x*y),.int .i64 0] else .tup [fI 0,.int .i64 4]:=rfl
 have hnn:=CT (x*y);rw[hr] at h2 hnn |-;rw[LL] at h2 hnn |-;obtain⟨b1,l1,q1⟩:=dD ((1:Nat):Int);obtain⟨bx,lx,qx⟩:=dD x;obtain⟨by_,ly,qy⟩:=dD y;obtain⟨bz,lz,qz⟩:=dD (x*y);rw[q1] at h0;rw[q1,qx] at h1;rw[qx,qy,qz] at h2;rw[qz] at hnn;rw[qx,qy,qz];generalize iR (x*y)=f at *;clear q1 qx qy qz hr e1;refine aG bJ func199 rfl ?_;refine Rt ?_;refine h0.go ?_ (.cons nn .nil) (d6 _ _);refine Rt ?_;have n2:NN (.il 2 [.agg [.bool bx,.il 1 (bB lx)],.agg [.bool by_,.il 1 (bB ly)]]):=.il' (.cons (d6 _ _) (.cons (d6 _ _) .nil));refine bI.at bJ (λp:Nat × Bool × List Nat=>(p.1=0/\p.2=(b1,l1))\/(p.1=1/\p.2=(bx,lx))\/(p.1=2/\p.2=(bz,lz)/\f=true))
  (λp=>⟨[(2,.ptr 0 0 0),(4,.ptr 1 0 0),(9,.il 2 [.agg [.bool bx,.il 1 (bB lx)],.agg [.bool by_,.il 1 (bB ly)]]),(10,.int .i64 2),(11,.int .i64 p.1)],[(0,.row 32 2 [.agg [.bool false,.nsl]]),(1,.row 32 2 [.agg [.bool p.2.1,.il 1 (bB p.2.2)]])],2,27⟩)
  (λp=>2-p.1) (0,b1,l1) [(0,0),(1,1)] (.inl ⟨rfl,rfl⟩)
  (aK _ rfl ⟨aI 0 YH,aI 1 (.cons (d6 _ _) .nil),trivial⟩ ⟨aN,aN,aP n2,aF,aF,trivial⟩) ?_
 rintro⟨i,p⟩ (⟨e1,e2⟩|⟨e1,e2⟩|⟨e1,e2,e3⟩)
 .simp only at e1 e2;subst e1 e2;refine Rt ?_;refine h1.go ?_ (.cons (d6 _ _) (.cons (d6 _ _) .nil)) (.tup' (.cons (d6 _ _) (.cons nn .nil)));refine Rt ?_;exact .mk (1,bx,lx) [(0,0),(1,1)] (.inr (.inl ⟨rfl,rfl⟩))
   (aK _ rfl ⟨aI 0 YH,aI 1 (.cons (d6 _ _) .nil),trivial⟩ ⟨aN,aN,aP n2,aF,⟨_,rfl,.int (by simp only;decide)⟩,trivial⟩) sq
 .simp only at e1 e2;subst e1 e2;refine Rt ?_;refine h2.go ?_ (.cons (d6 _ _) (.cons (d6 _ _) .nil)) hnn;cases f with
  | true=>
   refine Rt ?_;exact .mk (2,bz,lz) [(0,0),(1,1)] (.inr (.inr ⟨rfl,rfl,rfl⟩))
    (aK _ rfl ⟨aI 0 YH,aI 1 (.cons (d6 _ _) .nil),trivial⟩ ⟨aN,aN,aP n2,aF,⟨_,rfl,.int (by simp only;decide)⟩,trivial⟩) sq
  | false=>
   refine Rt ?_;exact cW (r':=.tup [.agg [.bool false,.il 1 []],.int .i64 4]) (.tup' (.cons UE (.s .nil))) ⟨rfl,rfl,rfl⟩
 .simp only at e1 e2;subst e1 e2 e3;refine Rt ?_;exact aA hnn ⟨rfl,rfl,rfl⟩
theorem Fl(x y:Int)(hy0:y≠0)(hx:(dg 4294967296 x.natAbs).length<=900000)(hy:(dg 4294967296 y.natAbs).length<=900000):aX prog [] 200 [fI x,fI y] (fI (x/y)):=by
 have h:=UW x y hy0 hx hy;obtain⟨bx,lx,qx⟩:=dD x;obtain⟨by_,ly,qy⟩:=dD y;obtain⟨bz,lz,qz⟩:=dD (x/y);obtain⟨bm,lm,qm⟩:=dD (x%y);rw[qx,qy,qz,qm] at h;rw[qx,qy,qz];refine aG bJ func200 rfl ?_;refine Rt ?_;refine h.go ?_ (.cons (d6 _ _) (.cons (d6 _ _) .nil)) (.tup' (.cons (d6 _ _) (.cons (d6 _ _) (.cons nn .nil))));refine Rt ?_;exact aA (d6 _ _) ⟨rfl,rfl,rfl⟩
theorem TG(a:Fr)(ha:(dg 4294967296 a.q).length<=1000000):aX prog [] 50 [lR a] (fI (a.den:Int)):=by
 have h0:=MH (a.q:Int) (by rw[Zb];exact ha);have h1:=LC ((1:Nat):Int) oq;have hc:dY (a.q:Int) 0=if a.q=0 then 0 else 1:=by unfold dY;split<;>(try split)<;>(try split)<;>omega
 have hd:a.den=if a.q=0 then 1 else a.q:=rfl
 obtain⟨bp,lp,bq,lq,-,q2,q3⟩:=fH a;obtain⟨b1,l1,e1⟩:=dD ((1:Nat):Int);rw[hc,q2] at h0;rw[e1] at h1;rw[q3,hd];refine aG bJ func50 rfl ?_;by_cases h:a.q=0
 .rw[Y4 h] at h0 |-;rw[e1];refine Rt ?_;refine h0.go ?_ (.cons (d6 _ _) .nil) nn;refine Z ?_;refine h1.go ?_ (.cons nn .nil) (d6 _ _);refine Rt ?_;exact aA (d6 _ _) ⟨rfl,rfl,rfl⟩
 .rw[Yz h] at h0 |-;rw[q2];refine Rt ?_;refine h0.go ?_ (.cons (d6 _ _) .nil) nn;refine Rt ?_;exact aA (d6 _ _) ⟨rfl,rfl,rfl⟩
theorem Tg(p q:Int)(hq:q≠0)(h1:(dg 4294967296 p.natAbs).length<=800000)(h2:(dg 4294967296 q.natAbs).length<=800000):aX prog [] 197 [fI p,fI q] (.tup [lR (yB p q),.int .i64 0]):=by
 have hg0:=Nv (p:=p) hq;have hn1:=Wh p om;have hn2:=Wh q om;have hs:=MH q om;have key:∀P Q:Int,P=(if q<0 then -p else p)->Q=(q.natAbs:Int)->aX prog [] 198 [fI P,fI Q] (fI (Nat.gcd p.natAbs q.natAbs:Nat)) /\
   aX prog [] 200 [fI P,fI (Nat.gcd p.natAbs q.natAbs:Nat)] (fI (yB p q).p) /\
   aX prog [] 200 [fI Q,fI (Nat.gcd p.natAbs q.natAbs:Nat)] (fI ((yB p q).q:Int)):=by
  intro P Q hP hQ;have a1:P.natAbs=p.natAbs:=by rw[hP];split<;>simp
  have a2:Q.natAbs=q.natAbs:=by rw[hQ];simp
  have hgl:=HF hW p.natAbs q.natAbs;have z1:=Tr P Q (by rw[a1];omega) (by rw[a2];omega);rw[a1,a2] at z1;have z2:=Fl P (Nat.gcd p.natAbs q.natAbs:Nat) om (by rw[a1];omega) (by rw[Zb];omega);have z3:=Fl Q (Nat.gcd p.natAbs q.natAbs:Nat) om (by rw[a2];omega) (by rw[Zb];omega);refine⟨z1, ?_, ?_⟩
  .have e:(yB p q).p=P/(Nat.gcd p.natAbs q.natAbs:Nat):=by rw[hP];rfl
   rw[e];exact z2
  .have e:((yB p q).q:Int)=Q/(Nat.gcd p.natAbs q.natAbs:Nat):=by rw[hQ,<-Int.natCast_ediv];rfl
   rw[e];exact z3
 have kn:=key (-p) (-q);have kp:=key p q;obtain⟨b,l,c,m,q1,q2,q3⟩:=fH (yB p q);rw[q1,q2] at kn kp;rw[q3];obtain⟨bg,lg,hgg⟩:=dD (Nat.gcd p.natAbs q.natAbs:Nat);rw[hgg] at kn kp;obtain⟨bm,lm,hmm⟩:=dD (-p);obtain⟨bn,ln,hnn⟩:=dD (-q);obtain⟨bp,lp,hpp⟩:=dD p;obtain⟨bq,lq,hqq⟩:=dD q;rw[hmm,hpp] at hn1;rw[hnn,hqq] at hn2;rw[hmm,hnn] at kn;rw[hpp,hqq] at kp;rw[hqq] at hs;rw[hpp,hqq];clear key q1 q2 q3 hgg hmm hnn hpp hqq hg0;refine aG bJ func197 rfl ?_;by_cases hlt:q<0
 .obtain⟨k1,k2,k3⟩:=kn (by rw[Y4 hlt]) om;rw[show dY q 0 = -1 by unfold dY;rw[Y4 hlt]] at hs;refine Rt ?_;refine hs.go ?_ (.cons (d6 _ _) .nil) nn;refine Rt ?_;refine hs.go ?_ (.cons (d6 _ _) .nil) nn;refine Rt ?_;refine hn1.go ?_ (.cons (d6 _ _) .nil) (d6 _ _);refine Rt ?_;refine hn2.go ?_ (.cons (d6 _ _) .nil) (d6 _ _);refine Rt ?_;refine k1.go ?_ (.cons (d6 _ _) (.cons (d6 _ _) .nil)) (d6 _ _);refine Rt ?_;refine k2.go ?_ (.cons (d6 _ _) (.cons (d6 _ _) .nil)) (d6 _ _);refine Rt ?_;refine k3.go ?_ (.cons (d6 _ _) (.cons (d6 _ _) .nil)) (d6 _ _);refine Rt ?_;exact aA (.tup' (.cons (zA _ _ _ _) (.cons nn .nil))) ⟨rfl,rfl,rfl⟩
 .obtain⟨k1,k2,k3⟩:=kp (by rw[Yz hlt]) om;rw[show dY q 0=1 by unfold dY;rw[Yz hlt,Y4 om]] at hs;refine Rt ?_;refine hs.go ?_ (.cons (d6 _ _) .nil) nn;refine Rt ?_;refine hs.go ?_ (.cons (d6 _ _) .nil) nn;refine Rt ?_;refine k1.go ?_ (.cons (d6 _ _) (.cons (d6 _ _) .nil)) (d6 _ _);refine Rt ?_;refine k2.go ?_ (.cons (d6 _ _) (.cons (d6 _ _) .nil)) (d6 _ _);refine Rt ?_;refine k3.go ?_ (.cons (d6 _ _) (.cons (d6 _ _) .nil)) (d6 _ _);refine Rt ?_;exact aA (.tup' (.cons (zA _ _ _ _) (.cons nn .nil))) ⟨rfl,rfl,rfl⟩
theorem Xx(p q:Int)(hp:i64 p)(hq:i64 q)(hq0:q≠0):aX prog [] 128 [.int .i64 p,.int .i64 q] (.tup [lR (yB p q),.int .i64 0]):=by
 have h1:=LC p hp;have h2:=LC q hq;unfold i64 at hp hq;have h3:=Tg p q hq0 (by have:(dg 4294967296 p.natAbs).length<=2:=Lc hW om;omega) (by have:(dg 4294967296 q.natAbs).length<=2:=Lc hW om;omega);obtain⟨b,l,c,m,-,-,q3⟩:=fH (yB p q);obtain⟨bp,lp,hpp⟩:=dD p;obtain⟨bq,lq,hqq⟩:=dD q;rw[hpp] at h1;rw[hqq] at h2;rw[hpp,hqq,q3] at h3;rw[q3];refine aG bJ func128 rfl ?_;refine Rt ?_;refine h1.go ?_ (.cons nn .nil) (d6 _ _);refine Rt ?_;refine h2.go ?_ (.cons nn .nil) (d6 _ _);refine Rt ?_;refine h3.go ?_ (.cons (d6 _ _) (.cons (d6 _ _) .nil)) (.tup' (.cons (zA _ _ _ _) (.cons nn .nil)));refine Rt ?_;exact aA (.tup' (.cons (zA _ _ _ _) (.cons nn .nil))) ⟨rfl,rfl,rfl⟩
def nF(a:Fr):Fr:=⟨a.p,a.den⟩
def SJ(r:Fr × Int):Fr:=if r.2=0 then r.1 else Qn
structure FP(a:Fr):Prop where
 num:iR a.p=true
 den:iR (a.den:Int)=true
theorem CH(a:Fr):0<a.den:=by unfold Fr.den;split<;>omega
theorem FP.ln{a:Fr}(h:FP a):(dg 4294967296 a.p.natAbs).length<=512:=GA h.num
theorem FP.ld{a:Fr}(h:FP a):(dg 4294967296 a.den).length<=512:=by have:=GA h.den;rw[Zb] at this;exact this
theorem FP.lq{a:Fr}(h:FP a):(dg 4294967296 a.q).length<=512:=by
 have:=h.ld;unfold Fr.den at this;split at this
 .rename_i e;rw[e,fP];simp
 .exact this
theorem OA{a:Nat}(g:Nat)(h:iR (a:Int)=true):iR ((a/g:Nat):Int)=true:=by
 unfold iR at h |-;rw[Zb] at h |-;have:=Zh h;exact Y7 (aAf (aAS _ _) this)
theorem Qk(z:Int):B2 z=if iR z=true then .tup [fI z,.int .i64 0] else .tup [.agg [.bool false,.il 1 []],.int .i64 4]:=by rw[<-LL];rfl
theorem Pu{x y:Int}(h:iR x=true)(hl:y.natAbs<=x.natAbs):iR y=true:=by
 unfold iR at h |-;exact Y7 (aAf hl (Zh h))
theorem IP(p:Int)(g:Nat)(h:g ∣ p.natAbs):(p/(g:Int)).natAbs<=p.natAbs:=by rw[tS p g h];exact aAS _ _
theorem X4(a b:Fr)(ha:FP a)(hb:FP b)(ca:Go.Ax.Can (nF a))(cb:Go.Ax.Can (nF b)):aX prog [] 130 [lR a,lR b] (.tup [lR (SJ (tW (nF a) (nF b))),.int .i64 (tW (nF a) (nF b)).2]):=by
 have ha0:=CH a;have hb0:=CH b;have la1:=ha.ln;have la2:=ha.ld;have lb1:=hb.ln;have lb2:=hb.ld;have dA:=TG a (by have:=ha.lq;omega);have dB:=TG b (by have:=hb.lq;omega);have hx:yB (a.p*b.p) ((a.den:Int)*(b.den:Int))=⟨(a.p/(Nat.gcd a.p.natAbs b.den:Int))*(b.p/(Nat.gcd b.p.natAbs a.den:Int)),(a.den/Nat.gcd b.p.natAbs a.den)*(b.den/Nat.gcd a.p.natAbs b.den)⟩:=Mj ca cb;have cM:Go.Ax.Can (yB (a.p*b.p) ((a.den:Int)*(b.den:Int))):=LD (Int.mul_ne_zero om om);have hres:tW (nF a) (nF b)=Sy (yB (a.p*b.p) ((a.den:Int)*(b.den:Int))):=rfl;have g1:0<Nat.gcd a.p.natAbs b.den:=aAg _ hb0;have g2:0<Nat.gcd b.p.natAbs a.den:=aAg _ ha0;have hG:=Tr a.p (b.den:Int) om (by rw[Zb];omega);have hH:=Tr b.p (a.den:Int) om (by rw[Zb];omega);simp only[Zb] at hG hH;have gl1:=HF hW a.p.natAbs b.den;have gl2:=HF hW b.p.natAbs a.den;have o1:=Fl a.p (Nat.gcd a.p.natAbs b.den:Nat) om om (by rw[Zb];omega);have o2:=Fl b.p (Nat.gcd b.p.natAbs a.den:Nat) om om (by rw[Zb];omega);have o3:=Fl (a.den:Int) (Nat.gcd b.p.natAbs a.den:Nat) om (by rw[Zb];omega) (by rw[Zb];omega);have o4:=Fl (b.den:Int) (Nat.gcd a.p.natAbs b.den:Nat) om (by rw[Zb];omega) (by rw[Zb];omega);rw[<-Int.natCast_ediv] at o3 o4;have x1:=IP a.p _ (aAI a.p.natAbs b.den);have x2:=IP b.p _ (aAI b.p.natAbs a.den);have fx1:=Pu ha.num x1;have fx3:=OA (Nat.gcd b.p.natAbs a.den) ha.den;have y1:=dO hW x1;have y2:=dO hW x2;have y3:=CP hW a.den (Nat.gcd b.p.natAbs a.den);have y4:=CP hW b.den (Nat.gcd a.p.natAbs b.den);generalize a.p/((Nat.gcd a.p.natAbs b.den:Nat):Int)=u1 at *;generalize b.p/((Nat.gcd b.p.natAbs a.den:Nat):Int)=u2 at *;generalize a.den/Nat.gcd b.p.natAbs a.den=u3 at *;generalize b.den/Nat.gcd a.p.natAbs b.den=u4 at *;generalize Nat.gcd a.p.natAbs b.den=g at *;generalize Nat.gcd b.p.natAbs a.den=h at *;rw[hx] at cM hres;have m1:=ID u1 u2 fx1 om;have m2:=ID (u3:Int) (u4:Int) fx3 (by rw[Zb];omega);have z1:=G9 hW u1.natAbs u2.natAbs;have z2:=G9 hW u3 u4;have hm:=Tg (u1*u2) ((u3*u4:Nat):Int) (by have:=cM.pos;simp only at this;omega) (by rw[aB0];omega) (by rw[Zb];omega);have hself:yB (u1*u2) ((u3*u4:Nat):Int)=⟨u1*u2,u3*u4⟩:=N3 cM;rw[hself] at hm;have n1:=CT (u1*u2);have n2:=CT ((u3:Int)*(u4:Int));rw[Qk] at m1 m2 n1 n2;rw[<-Int.natCast_mul] at m2 n2;have hR:AV.tup [lR (SJ (tW (nF a) (nF b))),.int .i64 (tW (nF a) (nF b)).2]=if (iR (u1*u2) && iR ((u3*u4:Nat):Int))=true then .tup [lR ⟨u1*u2,u3*u4⟩,.int .i64 0] else .tup [lR Qn,.int .i64 4]:=by
  rw[hres];unfold Sy;simp only;cases iR (u1*u2)<;>cases iR ((u3*u4:Nat):Int)<;>rfl
 generalize AV.tup [lR (SJ (tW (nF a) (nF b))),.int .i64 (tW (nF a) (nF b)).2]=RES at *;rw[PN] at hR;clear hres hself hx cM x1 x2 y1 y2 y3 y4 z1 z2 fx1 fx3 gl1 gl2 la1 la2 lb1 lb2 ha0 hb0 g1 g2 ca cb ha hb;obtain⟨Mb,Ml,Mc,Mm,qM1,qM2,qM⟩:=fH ⟨u1*u2,u3*u4⟩;simp only at qM1 qM2;obtain⟨ab,al,ac,am,qa1,qa2,qa3⟩:=fH a;obtain⟨bb,bl,bc,bm,qb1,qb2,qb3⟩:=fH b;obtain⟨cb,cl,ead⟩:=dD (a.den:Int);obtain⟨db,dl,ebd⟩:=dD (b.den:Int);obtain⟨gb,gl,eg⟩:=dD (g:Int);obtain⟨hb,hl,eh⟩:=dD (h:Int);obtain⟨b1,l1,k1⟩:=dD u1;obtain⟨b2,l2,k2⟩:=dD u2;obtain⟨b3,l3,k3⟩:=dD (u3:Int);obtain⟨b4,l4,k4⟩:=dD (u4:Int);rw[qM1,qM2,qM] at hm;rw[qM1] at n1;rw[qM2] at n2;rw[qM] at hR;rw[k1,k2,qM1] at m1;rw[k3,k4,qM2] at m2;generalize iR (u1*u2)=f1 at *;generalize iR ((u3*u4:Nat):Int)=f2 at *;rw[qa3,ead] at dA;rw[qb3,ebd] at dB;rw[qa1,ebd,eg] at hG;rw[qb1,ead,eh] at hH;rw[qa1,eg,k1] at o1;rw[qb1,eh,k2] at o2;rw[ead,eh,k3] at o3;rw[ebd,eg,k4] at o4;rw[qa3,qb3];clear qa1 qa2 qa3 qb1 qb2 qb3 qM qM1 qM2 eg eh k1 k2 k3 k4 ead ebd;refine aG bJ func130 rfl ?_;refine Rt ?_;refine dA.go ?_ (.cons (zA _ _ _ _) .nil) (d6 _ _);refine Rt ?_;refine dB.go ?_ (.cons (zA _ _ _ _) .nil) (d6 _ _);refine Rt ?_;refine hG.go ?_ (.cons (d6 _ _) (.cons (d6 _ _) .nil)) (d6 _ _);refine Rt ?_;refine hH.go ?_ (.cons (d6 _ _) (.cons (d6 _ _) .nil)) (d6 _ _);refine Rt ?_;refine o1.go ?_ (.cons (d6 _ _) (.cons (d6 _ _) .nil)) (d6 _ _);refine Rt ?_;refine o2.go ?_ (.cons (d6 _ _) (.cons (d6 _ _) .nil)) (d6 _ _);refine Rt ?_;refine aJ.pre bJ [(0,0),(1,1),(2,2),(11,11),(12,12),(13,13),(14,14),(25,25),(26,26)] (mem':=[(0,.row 34 4 [.agg [.bool ab,.il 1 (bB al),.bool ac,.il 1 (bB am)]]),(1,.row 34 4 [.agg [.bool bb,.il 1 (bB bl),.bool bc,.il 1 (bB bm)]]),(2,.row 34 4 [.agg [.bool false,.nsl,.bool false,.nsl]]),(11,.row 32 2 [.agg [.bool ab,.il 1 (bB al)]]),(12,.row 32 2 [.agg [.bool cb,.il 1 (bB cl)]]),(13,.row 32 2 [.agg [.bool bb,.il 1 (bB bl)]]),(14,.row 32 2 [.agg [.bool db,.il 1 (bB dl)]]),(25,.row 32 2 [.agg [.bool gb,.il 1 (bB gl)]]),(26,.row 32 2 [.agg [.bool hb,.il 1 (bB hl)]])]) rfl ⟨aI 0 (.cons (zA _ _ _ _) .nil),aI 1 (.cons (zA _ _ _ _) .nil),aI 2 Ye,aI 11 (.cons (d6 _ _) .nil),aI 12 (.cons (d6 _ _) .nil),aI 13 (.cons (d6 _ _) .nil),aI 14 (.cons (d6 _ _) .nil),aI 25 (.cons (d6 _ _) .nil),aI 26 (.cons (d6 _ _) .nil),trivial⟩
  (.cons (.fz' (id:=35) (off:=0) (len:=2) (xs:=[.agg [.bool b1,.il 1 (bB l1)],.agg [.bool b2,.il 1 (bB l2)]]) (ys:=[.agg [.bool b1,.il 1 (bB l1)],.agg [.bool b2,.il 1 (bB l2)]]) rfl rfl (Y8 2) rfl (.cons (d6 _ _) (.cons (d6 _ _) .nil))) .nil) ?_
 refine m1.go ?_ (.cons (.il' (.cons (d6 _ _) (.cons (d6 _ _) .nil))) .nil) n1;cases f1 with
 | false=>
  refine Rt ?_;exact cW (r':=.tup [.agg [.bool false,.il 1 [],.bool false,.il 1 []],.int .i64 4]) (.tup' (.cons TN (.s .nil))) ⟨by rw[hR];rfl,rfl,rfl⟩
 | true=>
  refine Rt ?_;refine o3.go ?_ (.cons (d6 _ _) (.cons (d6 _ _) .nil)) (d6 _ _);refine Rt ?_;refine o4.go ?_ (.cons (d6 _ _) (.cons (d6 _ _) .nil)) (d6 _ _);refine Rt ?_;refine aJ.pre bJ [(0,0),(1,1),(2,2),(11,11),(12,12),(13,13),(14,14),(25,25),(26,26),(40,40)] (mem':=[(0,.row 34 4 [.agg [.bool ab,.il 1 (bB al),.bool ac,.il 1 (bB am)]]),(1,.row 34 4 [.agg [.bool bb,.il 1 (bB bl),.bool bc,.il 1 (bB bm)]]),(2,.row 34 4 [.agg [.bool false,.nsl,.bool false,.nsl]]),(11,.row 32 2 [.agg [.bool ab,.il 1 (bB al)]]),(12,.row 32 2 [.agg [.bool cb,.il 1 (bB cl)]]),(13,.row 32 2 [.agg [.bool bb,.il 1 (bB bl)]]),(14,.row 32 2 [.agg [.bool db,.il 1 (bB dl)]]),(25,.row 32 2 [.agg [.bool gb,.il 1 (bB gl)]]),(26,.row 32 2 [.agg [.bool hb,.il 1 (bB hl)]]),(40,.row 32 2 [.agg [.bool Mb,.il 1 (bB Ml)]])]) rfl ⟨aI 0 (.cons (zA _ _ _ _) .nil),aI 1 (.cons (zA _ _ _ _) .nil),aI 2 Ye,aI 11 (.cons (d6 _ _) .nil),aI 12 (.cons (d6 _ _) .nil),aI 13 (.cons (d6 _ _) .nil),aI 14 (.cons (d6 _ _) .nil),aI 25 (.cons (d6 _ _) .nil),aI 26 (.cons (d6 _ _) .nil),aI 40 (.cons (d6 _ _) .nil),trivial⟩
   (.cons (.fz' (id:=49) (off:=0) (len:=2) (xs:=[.agg [.bool b3,.il 1 (bB l3)],.agg [.bool b4,.il 1 (bB l4)]]) (ys:=[.agg [.bool b3,.il 1 (bB l3)],.agg [.bool b4,.il 1 (bB l4)]]) rfl rfl (Y8 2) rfl (.cons (d6 _ _) (.cons (d6 _ _) .nil))) .nil) ?_
  refine m2.go ?_ (.cons (.il' (.cons (d6 _ _) (.cons (d6 _ _) .nil))) .nil) n2;cases f2 with
  | false=>
   refine Rt ?_;exact cW (r':=.tup [.agg [.bool false,.il 1 [],.bool false,.il 1 []],.int .i64 4]) (.tup' (.cons TN (.s .nil))) ⟨by rw[hR];rfl,rfl,rfl⟩
  | true=>
   refine Rt ?_;refine hm.go ?_ (.cons (d6 _ _) (.cons (d6 _ _) .nil)) (.tup' (.cons (zA _ _ _ _) (.cons nn .nil)));refine Rt ?_;exact aA (.tup' (.cons (zA _ _ _ _) (.cons nn .nil))) ⟨by rw[hR];rfl,rfl,rfl⟩
end Go.Proofs.YthggfhnnkclooaaGreatDoor
namespace Go.Ax
open Go
theorem Dd:∀{l m:List bD},l.length≠m.length->dC l m=false
 | [],[],h=>absurd rfl h
 | [],_::_,_=>rfl
 | _::_,[],_=>rfl
 | a::l,b::m,h=>by
  rw[dC,Dd (l:=l) (m:=m) (su h),aBp]
theorem wL{b l:List Int}{k:Nat}(h:k<l.length):fR b (l.take (k+1))=fR b (l.take k)+eJ b l[k]:=by
 unfold fR;rw[List.take_succ_eq_append_getElem h,Zz];rfl
theorem sS{b l:List Int}{k:Nat}(h:k<l.length):cX b (l.take (k+1))=max (cX b (l.take k)) (eJ b l[k]):=by
 unfold cX;rw[List.take_succ_eq_append_getElem h,Zz];rfl
theorem pV{b l:List Int}{k:Nat}(h:k<l.length)(hk:0<k):cX b ((l.take (k+1)).drop 1)=max (cX b ((l.take k).drop 1)) (eJ b l[k]):=by
 rw[List.take_succ_eq_append_getElem h,aBf (by simp;omega)];simp[cX]
theorem m9{b:List Int}{M:Int}(hM:0<=M)(h:∀x∈b,0<=x/\x<=M)(q:Int):0<=eJ b q/\eJ b q<=M:=by
 unfold eJ;rw[Yx];cases hq:b[q.toNat]? with
 | none=>simp;omega
 | some x=>exact h x (Y2 hq)
theorem o6(b:List Int):∀(l:List Int) (s:Int),l.foldl (λs k=>s+eJ b k) s=s+fR b l
 | [],s=>by simp[fR]
 | a::r,s=>by
  simp only[ZY,fR];rw[o6 b r,o6 b r (0+eJ b a)];simp[fR];omega
theorem jJ{b:List Int}{M:Int}(hM:0<=M)(h:∀x∈b,0<=x/\x<=M):∀l:List Int,0<=fR b l/\fR b l<=l.length*M
 | []=>by simp[fR]
 | a::r=>by
  have h1:=jJ hM h r;have h2:=m9 hM h a;have e:fR b (a::r)=eJ b a+fR b r:=by simp only[fR,ZY];rw[o6 b r];simp[fR]
  rw[e];simp only[Zc];have:((r.length+1:Nat):Int)*M=r.length*M+M:=by rw[Int.natCast_add,Int.add_mul];simp
  omega
theorem FA(b:List Int){M:Int}(h:∀q,0<=eJ b q/\eJ b q<=M):∀(l:List Int) (s:Int),0<=s->s<=M->0<=l.foldl (λs k=>max s (eJ b k)) s/\l.foldl (λs k=>max s (eJ b k)) s<=M
 | [],s,h1,h2=>⟨h1,h2⟩
 | a::r,s,h1,h2=>by
  have:=h a;simp only[ZY];exact FA b h r (max s (eJ b a)) om om
theorem gR{b:List Int}{M:Int}(hM:0<=M)(h:∀x∈b,0<=x/\x<=M)(l:List Int):0<=cX b l/\cX b l<=M:=
 FA b (m9 hM h) l 0 om hM
theorem aJ.useApp{P:Program}{C:List (Nat × AV)}{F:FuncId}{args args':List AV}{mem:aQ}{nx:Nat}{t:TypeId}{sz:Nat}{xs:List AV}{R:Nat->List AV->Prop}{K:AV->aQ->Nat->Prop}(hΓ:∀p∈C,NN p.2)
  (h:aJ P C F args' [(0,.row t sz xs)] 1 λr m _=>∃(len:Nat) (ys:List AV),r = .sl 1 0 len/\m=[(1,.row t sz ys)]/\jU ys/\R len ys) (g:Nat) (hg:lk mem g=some (.row t sz xs)) (hx:jU xs) (hargs:g6 [(g,.row t sz xs)] [(g,0)] args args')
  (hk:∀len ys,R len ys->CY g mem λrest=>K (.sl nx 0 len) ((nx,.row t sz ys)::rest) (nx+1)):aJ P C F args mem nx K:=by
 refine⟨λX D E w vs hD hm hv=>?_⟩;refine(aJ.use (K:=K) (nx:=nx) hΓ h [(g,0)] (m1:=[(g,.row t sz xs)]) (rest:=drop g mem) ⟨λp hp=>?_,λp hp=>dT hp,λp hp=>?_,λp hp q hq=>?_,sq⟩ (kS hm.nod) hargs (λp hp=>?_) sq (mI (by rfl)) (λid i hl=>?_) ?_).run X D E w vs hD hm hv
 .simp at hp;subst hp;exact bL hg
 .by_cases hpg:p.1=g
  .left;have:=sF hm.nod hp (bL hg) hpg;rw[this];simp
  .exact .inr (uK hp hpg)
 .simp at hp;subst hp;exact Ne.symm (sD hm.nod hq)
 .simp at hp;subst hp;exact .inl ⟨g,t,sz,xs,xs,rfl,by simp[lk],by simp[lk],.same hx⟩
 .have:=bL hl;simp at this;omega
 .rintro r m n ⟨len,ys,rfl,rfl,hn,hR⟩ _;refine⟨[(1,nx)],.sl nx 0 len,[(nx,.row t sz ys)],nx+1,aCg _,.sl 1 nx 0 len (by simp[lk]),λp hp=>?_,sq,mI (by rfl),λi id hl=>?_,λp hp q hq=>?_,wY.1 (hk len ys hR)⟩
  .simp at hp;subst hp;exact .inl ⟨1,t,sz,ys,ys,rfl,by simp[lk],by simp[lk],.same hn⟩
  .have:=bL hl;simp at this;obtain⟨rfl,rfl⟩:=this;exact .inr ⟨Y8 _,Y8 _,aAH _⟩
  .simp at hp;subst hp;have:=hD _ (hm.low q (dT hq));simp only;omega
def mU(x:iF):AV:=.agg [.il 4 (aR x.vals),.bool x.many]
def cC(l:List iF):List AV:=l.map mU
theorem oP(x:iF):NN (mU x):=.agg' (.cons (.il' (aW _)) (.cons (.bool _) .nil))
theorem bR(l:List iF):jU (cC l):=λa ha=>by
 obtain⟨n,_,rfl⟩:=ZL.1 ha;exact oP n
theorem r9(l:List iF):(cC l).length=l.length:=by rw[cC,aAs]
theorem mZ(l:List iF)(i:Nat):(cC l)[i]? = (l[i]?).map mU:=by rw[cC,ZT]
def sR(lo:Int)(k:Nat):List bD:=(List.range k).map λi:Nat=>.mk 0 (lo+(i:Int)) [] []
theorem BZ(lo:Int)(k:Nat):sR lo (k+1)=sR lo k++[.mk 0 (lo+(k:Int)) [] []]:=by simp[sR,aCd]
theorem EX(lo:Int)(k:Nat):(sR lo k).length=k:=by simp[sR]
theorem aJ.useNew{P:Program}{C:List (Nat × AV)}{F:FuncId}{args:List AV}{mem:aQ}{nx:Nat}{t:TypeId}{sz len:Nat}{ys:List AV}{K:AV->aQ->Nat->Prop}(hΓ:∀p∈C,NN p.2)
  (h:aJ P C F args [] 0 λr m n=>r = .sl 0 0 len/\m=[(0,.row t sz ys)]/\n=1) (ha:jU args) (hn:jU ys) (hk:K (.sl nx 0 len) ((nx,.row t sz ys)::mem) (nx+1)):aJ P C F args mem nx K:=by
 refine⟨λX D E w vs hD hm hv=>?_⟩;refine(aJ.use (K:=K) (nx:=nx) hΓ h [] (m1:=[]) (rest:=mem) ⟨(λp hp=>by cases hp),λp hp=>hp,λp hp=>.inr hp,(λp hp=>by cases hp),sq⟩ hm.nod (Cr ha) (λp hp=>by cases hp) sq (λi j k h=>by simp[lk] at h) (λid i h=>by simp[lk] at h) ?_).run X D E w vs hD hm hv;rintro r m n ⟨rfl,rfl,rfl⟩ _;refine⟨[(0,nx)],.sl nx 0 len,[(nx,.row t sz ys)],nx+1,aCg _,.sl 0 nx 0 len (by simp[lk]),λp hp=>?_,sq,mI (by rfl),λi id hl=>?_,λp hp q hq=>?_,hk⟩
 .simp at hp;subst hp;exact .inl ⟨0,t,sz,ys,ys,rfl,by simp[lk],by simp[lk],.same hn⟩
 .have:=bL hl;simp at this;obtain⟨rfl,rfl⟩:=this;exact .inr ⟨aAp _,Y8 _,aAH _⟩
 .simp at hp;subst hp;have:=hD _ (hm.low q hq);simp only;omega
theorem w8{bs:List iF}(hb:∀b∈bs,b.vals.length<=1024/\∀v∈b.vals,iG v):∀(l:List Int) (a:List bD × Bool) (n:Nat),a.1.length<=n->(∀v∈a.1,iG v) ->
  (l.foldl (bU bs) a).1.length<=n+l.length*1024/\∀v∈(l.foldl (bU bs) a).1,iG v
 | [],a,n,h1,h2=>⟨su h1,h2⟩
 | q::r,a,n,h1,h2=>by
  have hq:(dV bs q).vals.length<=1024/\∀v∈(dV bs q).vals,iG v:=by
   unfold dV;rw[Yx];cases hc:bs[q.toNat]? with
   | none=>simp
   | some b=>exact hb b (Y2 hc)
  have hs:=tL (a.1++(dV bs q).vals);simp only[ZA] at hs;have:=w8 hb r (bU bs a q) (n+1024) (by simp only[bU];omega) (λv hv=>by
   have:=rR hv;rcases ZI.1 this with h|h
   .exact h2 v h
   .exact hq.2 v h)
  simp only[ZY,Zc];refine⟨by have:=this.1;omega,this.2⟩
theorem J3{G β:Type}(f:β->G->β){l:List G}{k:Nat}(h:k<l.length)(a:β):(l.take (k+1)).foldl f a=f ((l.take k).foldl f a) l[k]:=by
 rw[List.take_succ_eq_append_getElem h,Zz];rfl
theorem KY{G β:Type}(f:β->G->β){l:List G}{k:Nat}(h:k<l.length)(hk:0<k)(a:β):((l.take (k+1)).drop 1).foldl f a=f (((l.take k).drop 1).foldl f a) l[k]:=by
 rw[List.take_succ_eq_append_getElem h,aBf (by simp;omega),Zz];rfl
theorem eS{G:Type}{P:List G->Prop}(h0:P [])(h1:∀(l:List G) (x:G),P l->P (l++[x]))(l:List G):P l:=by
 rw[<-List.reverse_reverse l]
 induction l.reverse with
 | nil=>exact h0
 | cons a r ih=>rw[aBD];exact h1 _ _ ih
structure lL(i:Nat)(x:Nd):Prop where
 ok:sU x
 kind:0<=x.kind/\x.kind<=4
 kids:∀(j:Nat) (k:Int),x.kids[j]? = some k->0<=k/\k<i
 klen:x.kids.length<=65536
 num:eD x=true
def Fs(bs:List iF):Prop:=∀b∈bs,b.vals.length<=1024/\∀v∈b.vals,iG v
theorem cQ{x:Nd}(h:eD x=true):x.lo<=x.hi/\-4611686018427387904<=x.lo/\x.hi<=4611686018427387904/\x.hi<x.lo+1099511627776:=by
 unfold eD at h;simp only[Y1,ZR] at h;exact⟨h.1.1.1.1,h.1.1.1.2,h.1.1.2,h.1.2⟩
theorem wW{rows:List (List bD)}{l:List bD}{r:List bD}(h:r∈gU rows l):∃r'∈rows,∃v∈l,r=r'++[v]:=by
 simp only[gU,aB8,ZL] at h;obtain⟨r',h1,v,h2,rfl⟩:=h;exact⟨r',h1,v,h2,rfl⟩
theorem wO(l:List bD):∀rows:List (List bD),(gU rows l).length=rows.length*l.length
 | []=>by simp[gU]
 | r::rs=>by
  have:=wO l rs;simp only[gU,aAP,ZA,aAs,Zc,Nat.add_mul,aAa] at this |-;omega
theorem vN{bs:List iF}(hb:Fs bs)(k:Int):(dV bs k).vals.length<=1024/\∀v∈(dV bs k).vals,iG v:=by
 unfold dV;rw[Yx];cases h:bs[k.toNat]? with
 | none=>simp
 | some b=>exact hb b (Y2 h)
theorem Dg{bs:List iF}(hb:Fs bs):∀(kids:List Int) (rows out:List (List bD)) (n:Nat),rows.length<=1024->(∀r∈rows,r.length<=n/\∀v∈r,iG v)->fM bs kids rows=some out->out.length<=1024/\∀r∈out,r.length<=n+kids.length/\∀v∈r,iG v
 | [],rows,out,n,h1,h2,h=>by
  simp only[fM] at h;cases h;exact⟨h1,λr hr=>⟨by simpa using (h2 r hr).1,(h2 r hr).2⟩⟩
 | k::ks,rows,out,n,h1,h2,h=>by
  simp only[fM] at h;split at h
  .cases h
  .rename_i hc;rw[not_or] at hc;have hg:=vN hb k;obtain⟨a,b⟩:=Dg hb ks _ out (n+1) (by rw[wO];omega) (λr hr=>by
    obtain⟨r',h3,v,h4,rfl⟩:=wW hr;refine⟨by have:=(h2 r' h3).1;simp;omega,λu hu=>?_⟩;rcases ZI.1 hu with hu|hu
    .exact(h2 r' h3).2 u hu
    .simp at hu;rw[hu];exact hg.2 v h4) h
   exact⟨a,λr hr=>⟨by have:=(b r hr).1;simp;omega,(b r hr).2⟩⟩
theorem NR{name:List UInt8}(hn:name.length<=4294967296){r:List bD}(hr:r.length<=4294967296)(ho:∀v∈r,iG v):iG (d8 name r):=by
 unfold d8;split
 .exact lW oq oq sq hr (tF ho)
 .exact lW oq oq hn hr (tF ho)
theorem Ei{bs:List iF}:∀(l:List Int) (a:List bD × Bool),(a.2=false->a.1.length<=1024)->(l.foldl (bU bs) a).2=false->(l.foldl (bU bs) a).1.length<=1024
 | [],a,h,h2=>h h2
 | k::r,a,h,h2=>by
  refine Ei r (bU bs a k) (λh3=>?_) h2;simp only[bU,aA8,aAn] at h3 |-;omega
theorem Jp{x:Nd}{i:Nat}{bs:List iF}(hx:lL i x)(hb:Fs bs):(dQ x bs).vals.length<=1024/\∀v∈(dQ x bs).vals,iG v:=by
 unfold dQ;have hnum:=cQ hx.num;split
 .exact⟨sq,λv hv=>by simp at hv;rw[hv];exact hx.ok.value⟩
 .split
  .split
   .simp
   .refine⟨by simp[iE];omega,λv hv=>?_⟩;simp only[iE,ZL,aAL] at hv;obtain⟨j,hj,rfl⟩:=hv;exact iV oq oq
  .split
   .unfold p7;split
    .simp
    .rename_i rows hr;obtain⟨h1,h2⟩:=Dg hb x.kids [[]] rows 0 sq sq hr;refine⟨by have:=tL (rows.map (d8 x.name));simp at this |-;omega,λv hv=>?_⟩;have:=rR hv;obtain⟨r,hr2,rfl⟩:=ZL.1 this;have h3:=h2 r hr2;have:=hx.klen;exact NR hx.ok.name om h3.2
   .generalize (if x.kind=4 then x.kids.drop 1 else x.kids)=ks;unfold mL;split
    .simp
    .rename_i hm;have hm:(ks.foldl (bU bs) ([],false)).2=false:=su hm
     exact⟨Ei _ _ sq hm,(w8 hb _ ([],false) 0 sq sq).2⟩
theorem f8(l:List Nd):(aS l).length=l.length:=by
 refine eS (P:=λl=>(aS l).length=l.length) rfl (λl x ih=>?_) l;rw[jI];simp[ih]
theorem oA(l:List Nd):(∀(i:Nat) (x:Nd),l[i]? = some x->lL i x)->Fs (aS l):=by
 refine eS (P:=λl=>(∀(i:Nat) (x:Nd),l[i]? = some x->lL i x)->Fs (aS l)) (λ_ b hb=>by simp[aS] at hb) (λl x ih h=>?_) l;have h1:=ih λi y hy=>h i y (by
  have:=(Y0.1 hy).1;rw[ZK this];exact hy)
 have h2:=h l.length x sq;rw[jI];intro b hb;rcases ZI.1 hb with hb|hb
 .exact h1 b hb
 .simp at hb;rw[hb];exact Jp h2 h1
theorem Ca:∀(b l r:List Nd),cH b l=0->cH b (l++r)=cH (b++l) r
 | b,[],r,_=>sq
 | b,y::l,r,h=>by
  simp only[Zo,cH] at h |-;split at h
  .rename_i h1;exact absurd h h1
  .rename_i h1;rw[Yz h1,Ca (b++[y]) l r h];simp
theorem jO{l r:List Nd}(h:cH [] (l++r)=0):cH [] l=0:=by
 have key:∀(l b:List Nd),cH b (l++r)=0->cH b l=0:=by
  intro l
  induction l with
  | nil=>intro b _;rfl
  | cons y l ih=>
   intro b h;simp only[Zo,cH] at h |-;split at h
   .rename_i h1;exact absurd h h1
   .rename_i h1;rw[Yz h1];exact ih _ h
 exact key l [] h
theorem Be{l r:List Nd}{x:Nd}(h:cH [] l=0)(hs:iJ l (a8 l) (c7 l) x≠0):cH [] (l++x::r)=iJ l (a8 l) (c7 l) x:=by
 rw[Ca _ _ _ h];simp only[Zi,cH];rw[Y4 hs]
theorem lO:∀{l m:List bD},dC l m=true->l.length=m.length
 | [],[],_=>rfl
 | a::l,b::m,h=>by
  simp only[dC,Y1] at h;simp[lO h.2]
 | [],b::m,h=>by simp[dC] at h
 | a::l,[],h=>by simp[dC] at h
structure F4(i:Nat)(x:Nd):Prop where
 kind:0<=x.kind/\x.kind<=4
 kids:∀(j:Nat) (k:Int),x.kids[j]? = some k->0<=k/\k<i
 num:eD x=true
 klen:x.kind≠4->x.kids.length<=256
 bind:x.kind=4->x.kids.length=x.values.length+1
theorem nL{i:Nat}{x:Nd}(h:gG i x=0):F4 i x:=by
 unfold gG at h;split at h
 .omega
 .rename_i hf;split at h
  .rename_i h1;exact absurd h h1
  .split at h
   .omega
   .rename_i hn;have hn:eD x=true:=su hn
    have hf:dL i x=true:=su hf
    unfold dL at hf;simp only[Y1,Z0,ZR] at hf;obtain⟨⟨⟨⟨⟨⟨hu,hk⟩,hki⟩,h2⟩,h3⟩,h4⟩,_⟩:=hf;refine⟨hk,pE.1 hki,hn,λhne=>?_,λhe=>om⟩;unfold jF at hu;simp only[Y1,Z0,ZR] at hu;rcases(show x.kind=0\/x.kind=1\/x.kind=2\/x.kind=3 by omega) with e|e|e|e
    .have:=hu.2;omega
    .have:=hu.2;omega
    .rcases h2 with h2|h2
     .omega
     .exact h2.1.1.2
    .rcases h3 with h3|h3
     .omega
     .exact h3.1
theorem gD{before:List Nd}{ls ss:List Int}{x:Nd}(h:iJ before ls ss x=0):gG before.length x=0/\fN ls x<=256/\mJ ss x<=1024/\(x.kind=4->jC before x=0):=by
 unfold iJ at h;split at h
 .rename_i h1;exact absurd h h1
 .rename_i h1;split at h
  .omega
  .rename_i h2;rw[not_or] at h2;refine⟨su h1,om,om,λe=>?_⟩;rw[Y4 e] at h;exact h
theorem lZ{G:Type}{l:List G}{n i:Nat}{x:G}(h:(l.take n)[i]? = some x):l[i]? = some x/\i<n:=by
 rw[Za] at h;split at h
 .rename_i hi;exact⟨h,hi⟩
 .cases h
theorem Mk{before:List Nd}{x:Nd}(hg:∀(j:Nat) (y:Nd),before[j]? = some y->lL j y)(h:jC before x=0):x.values.length<=1024:=by
 unfold jC at h;simp only at h;split at h
 .omega
 .split at h
  .rename_i hs;have:=lO hs;have hgl:=oA (before.take ((x.kids.getD 0 0).toNat+1)) λi y hy=>hg i y (lZ hy).1
   have:=(vN hgl (x.kids.getD 0 0)).1;omega
  .omega
theorem MZ{before:List Nd}{ls ss:List Int}{x:Nd}(hg:∀(j:Nat) (y:Nd),before[j]? = some y->lL j y)(ho:sU x)(h:iJ before ls ss x=0):lL before.length x:=by
 obtain⟨h1,h2,h3,h4⟩:=gD h;have hn:=nL h1;refine⟨ho,hn.kind,hn.kids, ?_,hn.num⟩;by_cases e:x.kind=4
 .have:=hn.bind e;have:=Mk hg (h4 e);omega
 .have:=hn.klen e;omega
theorem mT(ns:List Nd)(ho:∀x∈ns,sU x)(h:cH [] ns=0):∀(j:Nat) (x:Nd),ns[j]? = some x->lL j x:=by
 refine eS (P:=λns=>(∀x∈ns,sU x)->cH [] ns=0->∀(j:Nat) (x:Nd),ns[j]? = some x->lL j x) (λ_ _ j x hx=>by simp at hx) (λl x ih ho h=>?_) ns ho h;have h1:=jO h;have ih:=ih (λy hy=>ho y (Zf _ hy)) h1;have hs:=gQ [] l x h1;rw[h] at hs;simp only[Zi] at hs;have hg:=MZ ih (ho x sq) hs.symm;intro j y hy;rcases ZG j l.length with hj|hj
 .rw[ZK hj] at hy;exact ih j y hy
 .rw[ZM hj] at hy;have e:j-l.length=0:=by
   have:=(Y0.1 hy).1;simp at this;omega
  rw[e] at hy;simp at hy;subst hy;obtain rfl:j=l.length:=om;exact hg
theorem Iy{ls:List Int}{x:Nd}(h:∀y∈ls,0<=y/\y<=1024):0<=fN ls x:=by
 have h1:=(jJ om h x.kids).1;have h2:=(gR om h (eQ x)).1;have h3:=(m9 om h (x.kids.getD 0 0)).1;unfold fN;split
 .omega
 .split
  .omega
  .split
   .exact h1
   .split
    .omega
    .omega
theorem H2{ls:List Int}{x:Nd}(h:∀y∈ls,0<=y/\y<=1024):0<=mJ ls x:=by
 have h1:=(jJ om h x.kids).1;have h2:=(gR om h (eQ x)).1;unfold mJ;split
 .omega
 .split
  .omega
  .split
   .omega
   .exact h2
theorem jH(ns:List Nd)(h:cH [] ns=0):(∀y∈a8 ns,0<=y/\y<=1024)/\(∀y∈c7 ns,0<=y/\y<=1024):=by
 refine eS (P:=λns=>cH [] ns=0->(∀y∈a8 ns,0<=y/\y<=1024)/\(∀y∈c7 ns,0<=y/\y<=1024)) (λ_=>by simp[a8,c7]) (λl x ih h=>?_) ns h;have h1:=jO h;obtain⟨i1,i2⟩:=ih h1;have hs:=gQ [] l x h1;rw[h] at hs;simp only[Zi] at hs;obtain⟨_,h2,h3,_⟩:=gD hs.symm;rw[iT,nC];have n1:=Iy (x:=x) i1;have n2:=H2 (x:=x) i2;constructor
 .intro y hy;rcases ZI.1 hy with hy|hy
  .exact i1 y hy
  .simp at hy;subst hy;omega
 .intro y hy;rcases ZI.1 hy with hy|hy
  .exact i2 y hy
  .simp at hy;subst hy;omega
theorem fV(l:List Nd):(a8 l).length=l.length:=by
 refine eS (P:=λl=>(a8 l).length=l.length) rfl (λl x ih=>?_) l;rw[iT];simp[ih]
theorem lX(l:List Nd):(c7 l).length=l.length:=by
 refine eS (P:=λl=>(c7 l).length=l.length) rfl (λl x ih=>?_) l;rw[nC];simp[ih]
theorem CO{a b:Int}(ha:0<=a)(hb:0<b):a.tdiv b<=a:=by
 rw[aA2 ha];exact Int.ediv_le_self _ ha
theorem kM{a b:Int}(ha:0<=a)(hb:0<b):0<=a.tmod b/\a.tmod b<b:=⟨aAR _ ha,aAz _ hb⟩
theorem It(k:Int)(hk:0<=k):iG (xI k)/\bN (xI k)<=2:=by
 have h4:=kM hk (show (0:Int)<4 by omega);have hd:0<=k.tdiv 4:=aAT hk om;have a:=kM hd (show (0:Int)<9 by omega);have b:=kM hd (show (0:Int)<2 by omega);have c:=kM hd (show (0:Int)<3 by omega);unfold xI;split
 .exact⟨iV oq oq,by simp[bN,cY]⟩
 .split
  .exact⟨iV oq oq,by simp[bN,cY]⟩
  .split
   .refine⟨lW oq oq ?_ sq (by simp[yI]),by simp[bN,cY]⟩;rcases(show ((k.tdiv 4).tmod 3).toNat=0\/((k.tdiv 4).tmod 3).toNat=1\/((k.tdiv 4).tmod 3).toNat=2 by omega) with h|h|h<;>rw[h]<;>simp
   .refine⟨lW oq oq sq sq ?_,by simp[bN,cY]⟩;simp only[yI,and_true];exact iV oq oq
def yS:List (List UInt8):=[[97],[98],[99],[100]]
structure MU(x:Nd):Prop where
 ok:sU x
 vals:x.values.length<=1024
 labels:∀s∈x.labels,s∈yS
 seq:x.kind=3->x.kids.length<=3
structure iS(ns:List Nd):Prop where
 valid:cH [] ns=0
 gen:∀x∈ns,MU x
theorem oV{kind lo hi:Int}{name:List UInt8}{ws ks:List Int}{ls:List (List UInt8)}{vs:List bD}{v:bD}(h1:i64 kind)(h2:name.length<=1000)(h3:i64 lo)(h4:i64 hi)(h5:ws.length<=1000)(h6:∀w∈ws,i64 w)(h7:ls.length<=1000)(h8:∀s∈ls,s∈yS)
  (h9:vs.length<=1000) (h10:∀v∈vs,iG v/\bN v<=4294967296) (h11:ks.length<=1000) (h12:∀k∈ks,i64 k) (h13:iG v) (h14:bN v<=4294967296)
  (h15:kind=3->ks.length<=3:=by first|(intro h;exact absurd h om)|(intro _;omega)):MU ⟨kind,name,lo,hi,ws,ls,vs,ks,v⟩:=
 ⟨⟨h1,by simp only;omega,h3,h4,by simp only;omega,h6,by simp only;omega,λs hs=>by
   have:=h8 s hs;simp[yS] at this;rcases this with rfl|rfl|rfl|rfl<;>simp,by simp only;omega,h10,by simp only;omega,h12,h13,h14⟩,by simp only;omega,h8,h15⟩
theorem J2(ns:List Nd)(ls ss:List Int)(m:Int):iJ ns ls ss ⟨0,[],0,0,[],[],[],[],.mk 0 m [] []⟩=0:=by
 have hv:gK (.mk 0 m [] [])=0:=by simp[gK,cJ,d9,dJ,oK,rS,zG,bN,cY]
 have hf:dL (ns.length:Int) ⟨0,[],0,0,[],[],[],[],.mk 0 m [] []⟩=true:=by simp[dL,jF,t7,fX]
 have hn:gG (ns.length:Int) ⟨0,[],0,0,[],[],[],[],.mk 0 m [] []⟩=0:=by
  unfold gG;rw[Yz (by rw[hf];simp)];simp[p6,fD,hv,eD]
 unfold iJ;rw[Yz (by rw[hn];simp)];simp[fN,mJ,bN,cY]
theorem Ci{bs:List iF}{ss:List Int}:∀(kids:List Int) (rows out:List (List bD)) (S:Int),(∀r∈rows,(cY r:Int)<=S)->(∀k∈kids,∀v∈(dV bs k).vals,(bN v:Int)<=eJ ss k)->fM bs kids rows=some out->∀r∈out,(cY r:Int)<=S+fR ss kids
 | [],rows,out,S,h1,_,h=>by
  simp only[fM] at h;cases h;intro r hr;simpa[fR] using h1 r hr
 | k::ks,rows,out,S,h1,h2,h=>by
  simp only[fM] at h;split at h
  .cases h
  .have e:fR ss (k::ks)=eJ ss k+fR ss ks:=by simp only[fR,ZY];rw[o6 ss ks];simp[fR]
   have ih:=Ci ks _ out (S+eJ ss k) (λr hr=>by
    obtain⟨r',h3,v,h4,rfl⟩:=wW hr;have a:=h1 r' h3;have b:=h2 k sq v h4;rw[yY];omega) (λk' hk'=>h2 k' (by simp[hk'])) h
   intro r hr;have:=ih r hr;omega
theorem LR{bs:List iF}:∀(l:List Int) (a:List bD × Bool),∀v∈(l.foldl (bU bs) a).1,v∈a.1\/∃k∈l,v∈(dV bs k).vals
 | [],a,v,hv=>.inl hv
 | k::r,a,v,hv=>by
  rcases LR r (bU bs a k) v hv with h|⟨k',h1,h2⟩
  .simp only[bU] at h;rcases ZI.1 (rR h) with h|h
   .exact .inl h
   .exact .inr ⟨k,sq,h⟩
  .exact .inr ⟨k',by simp[h1],h2⟩
theorem pK{ss:List Int}:∀(l:List Int) (s:Int) (k:Int),k∈l->eJ ss k<=l.foldl (λs k=>max s (eJ ss k)) s/\s<=l.foldl (λs k=>max s (eJ ss k)) s
 | a::r,s,k,h=>by
  have mono:∀(l:List Int) (s:Int),s<=l.foldl (λs k=>max s (eJ ss k)) s:=by
   intro l
   induction l with
   | nil=>intro s;simp
   | cons b l ih=>intro s;have:=ih (max s (eJ ss b));simp only[ZY];omega
  simp only[ZY];rcases Y6.1 h with rfl|h
  .have:=mono r (max s (eJ ss k));omega
  .have:=pK (ss:=ss) r (max s (eJ ss a)) k h;omega
theorem Kz{x:Nd}{bs:List iF}{ss:List Int}(hkd:0<=x.kind/\x.kind<=4)(hb:∀k∈x.kids,∀v∈(dV bs k).vals,(bN v:Int)<=eJ ss k):∀v∈(dQ x bs).vals,(bN v:Int)<=mJ ss x:=by
 intro v hv;unfold dQ at hv;split at hv
 .rename_i h0;simp at hv;subst hv;unfold mJ;rw[Y4 h0];omega
 .rename_i h0;split at hv
  .rename_i h1;split at hv
   .simp at hv
   .simp only[iE,ZL] at hv;obtain⟨j,_,rfl⟩:=hv;unfold mJ;rw[Yz h0,Y4 h1];simp[bN,cY]
  .rename_i h1;split at hv
   .rename_i h3;unfold p7 at hv;split at hv
    .simp at hv
    .rename_i rows hr;obtain⟨r,hr2,rfl⟩:=ZL.1 (rR hv);have:=Ci x.kids [[]] rows 0 (by simp[cY]) hb hr r hr2;have e:bN (d8 x.name r)=1+cY r:=by unfold d8;split<;>simp[bN]
     unfold mJ;rw[Yz h0,Yz h1,Y4 h3,e];omega
   .rename_i h3;have key:∀ks:List Int,(∀k∈ks,k∈x.kids)->v∈(mL bs ks).vals->(bN v:Int)<=cX ss ks:=by
     intro ks hks hv;unfold mL at hv;split at hv
     .simp at hv
     .rcases LR ks ([],false) v hv with h|⟨k,h1,h2⟩
      .simp at h
      .have:=hb k (hks k h1) v h2;have:=(pK (ss:=ss) ks 0 k h1).1;unfold cX;omega
    have:(bN v:Int)<=cX ss (eQ x):=by
     unfold eQ;by_cases h4:x.kind=4
     .rw[Y4 h4] at hv;rw[Yz om];exact key _ (λk hk=>Zr hk) hv
     .rw[Yz h4] at hv;by_cases h2:x.kind=2
      .rw[Y4 h2];exact key _ (λk hk=>hk) hv
      .omega
    unfold mJ;rw[Yz h0,Yz h1,Yz h3];omega
theorem IU{bs:List iF}{b:iF}{k:Int}(hk:0<=k):(k<bs.length->dV (bs++[b]) k=dV bs k)/\(k=bs.length->dV (bs++[b]) k=b):=by
 unfold dV;constructor
 .intro h;rw[Yx,Yx,ZK om]
 .intro h;rw[Yx,ZM om,show k.toNat-bs.length=0 by omega];rfl
theorem PE{bs:List Int}{b:Int}{k:Int}(hk:0<=k):(k<bs.length->eJ (bs++[b]) k=eJ bs k)/\(k=bs.length->eJ (bs++[b]) k=b):=by
 unfold eJ;constructor
 .intro h;rw[Yx,Yx,ZK om]
 .intro h;rw[Yx,ZM om,show k.toNat-bs.length=0 by omega];rfl
theorem KK(ns:List Nd)(hg:∀(j:Nat) (x:Nd),ns[j]? = some x->lL j x):∀(k:Int),0<=k->k<ns.length->∀v∈(dV (aS ns) k).vals,(bN v:Int)<=eJ (c7 ns) k:=by
 refine eS (P:=λns=>(∀(j:Nat) (x:Nd),ns[j]? = some x->lL j x)->∀(k:Int),0<=k->k<ns.length->∀v∈(dV (aS ns) k).vals,(bN v:Int)<=eJ (c7 ns) k) (λ_ k h1 h2=>by simp at h2;omega) (λl x ih hg k hk0 hk v hv=>?_) ns hg;have hgl:∀(j:Nat) (y:Nd),l[j]? = some y->lL j y:=λj y hy=>hg j y (by
  have:=(Y0.1 hy).1;rw[ZK this];exact hy)
 have ih:=ih hgl;have hx:=hg l.length x sq;rw[jI] at hv;rw[nC];have e1:=IU (bs:=aS l) (b:=dQ x (aS l)) hk0;have e2:=PE (bs:=c7 l) (b:=mJ (c7 l) x) hk0;rw[f8] at e1;rw[lX] at e2;rcases(show k<l.length\/k=l.length by simp at hk;omega) with h|h
 .rw[e1.1 h] at hv;rw[e2.1 h];exact ih k hk0 h v hv
 .rw[e1.2 h] at hv;rw[e2.2 h];refine Kz hx.kind (λq hq u hu=>?_) v hv;obtain⟨j,hj⟩:=ZV hq;obtain⟨q0,q1⟩:=hx.kids j q hj;exact ih q q0 q1 u hu
theorem H6(ns:List Nd)(ho:∀x∈ns,sU x)(h:cH [] ns=0)(k:Int)(h0:0<=k)(h1:k<ns.length):∀v∈(dV (aS ns) k).vals,bN v<=1024:=by
 intro v hv;have a:=KK ns (mT ns ho h) k h0 h1 v hv;have b:=(m9 (M:=1024) om (jH ns h).2 k).2;omega
theorem iS.ok{ns:List Nd}(h:iS ns):∀x∈ns,sU x:=λx hx=>(h.gen x hx).ok
theorem iS.good{ns:List Nd}(h:iS ns):∀(j:Nat) (x:Nd),ns[j]? = some x->lL j x:=mT ns h.ok h.valid
theorem iS.snoc{ns:List Nd}{x:Nd}(h:iS ns)(hl:ns.length<=1000)(hx:MU x)(hv:cR (ns++[x])=0):iS (ns++[x]):=by
 unfold cR at hv;rw[Yz (by simp;omega)] at hv;refine⟨hv,λy hy=>?_⟩;rcases ZI.1 hy with hy|hy
 .exact h.gen y hy
 .simp at hy;rw[hy];exact hx
theorem iS.leaf{ns:List Nd}(h:iS ns){m:Int}(hm:i64 m):iS (ns++[⟨0,[],0,0,[],[],[],[],.mk 0 m [] []⟩]):=by
 refine⟨?_,λy hy=>?_⟩
 .rw[gQ [] ns _ h.valid];exact J2 _ _ _ _
 .rcases ZI.1 hy with hy|hy
  .exact h.gen y hy
  .simp at hy;rw[hy];have h0:i64 0:=oq
   exact oV h0 sq h0 h0 sq sq sq sq sq sq sq sq (iV h0 hm) (by simp[bN,cY])
def fJ(a b:List bD):List bD:=match a,b with
 | [],b=>b
 | a,[]=>a
 | x::l,y::m=>if cN x y<0 then x::fJ l (y::m) else if cN x y=0 then x::fJ l m else y::fJ (x::l) m
termination_by a.length+b.length
theorem Db(b:List bD):fJ [] b=b:=by rw[fJ]
theorem Jd(a:List bD):fJ a []=a:=by
 cases a with
 | nil=>rw[fJ]
 | cons x l=>rw[fJ];simp
theorem IS(x y:bD)(l m:List bD):fJ (x::l) (y::m)=if cN x y<0 then x::fJ l (y::m) else if cN x y=0 then x::fJ l m else y::fJ (x::l) m:=by rw[fJ]
mutual
theorem FO:∀(a b:bD),cN a b=0->a=b
 | .mk k n s ks,.mk k' n' s' ks',h=>by
  simp only[cN,andThen] at h;split at h
  .rename_i h1;split at h
   .rename_i h2;split at h
    .rename_i h3;have e1:k=k':=Decidable.byContradiction λe=>wJ e h1
     have e2:n=n':=Decidable.byContradiction λe=>wJ e h2
     rw[e1,e2,o0 h3,Ou ks ks' h]
    .rename_i h3;exact absurd h h3
   .rename_i h2;exact absurd h h2
  .rename_i h1;exact absurd h h1
theorem Ou:∀(l m:List bD),gJ l m=0->l=m
 | [],[],_=>rfl
 | [],_::_,h=>by simp[gJ] at h
 | _::_,[],h=>by simp[gJ] at h
 | a::l,b::m,h=>by
  simp only[gJ,andThen] at h;split at h
  .rename_i h1;rw[FO a b h1,Ou l m h]
  .rename_i h1;exact absurd h h1
end
theorem EB(a:bD):¬cN a a<0:=by rw[(jY a).refl];omega
theorem F7:∀{a b:List bD},lK a->lK b->(∀x,x∈a↔x∈b)->a=b
 | [],[],_,_,_=>rfl
 | [],y::m,_,_,h=>by have:=(h y).2 sq;simp at this
 | x::l,[],_,_,h=>by have:=(h x).1 sq;simp at this
 | x::l,y::m,h1,h2,h=>by
  unfold lK at h1 h2;rw[Zn] at h1 h2;have e:x=y:=by
   rcases Y6.1 ((h x).1 sq) with e|e
   .exact e
   .rcases Y6.1 ((h y).2 sq) with e'|e'
    .exact e'.symm
    .have a1:=h2.1 x e;have a2:=h1.1 y e';have:=Io a1 (by omega:cN x y<=0);exact absurd this (EB y)
  subst e;congr 1;refine F7 h1.2 h2.2 λz=>?_
  constructor
  .intro hz;rcases Y6.1 ((h z).1 (by simp[hz])) with e|e
   .subst e;exact absurd (h1.1 z hz) (EB z)
   .exact e
  .intro hz;rcases Y6.1 ((h z).2 (by simp[hz])) with e|e
   .subst e;exact absurd (h2.1 z hz) (EB z)
   .exact e
theorem IF:∀(l:List bD) (v x:bD),x∈vE l v↔x=v\/x∈l
 | [],v,x=>by simp[vE,cE]
 | a::r,v,x=>by
  rw[Eo];split
  .split
   .rename_i h;have e:=FO a v (su h);subst e;constructor
    .intro h;exact .inr h
    .rintro(rfl|h)
     .simp
     .exact h
   .simp
  .simp only[Y6,IF r v x];constructor
   .rintro(h|h|h)
    .exact .inr (.inl h)
    .exact .inl h
    .exact .inr (.inr h)
   .rintro(h|h|h)
    .exact .inr (.inl h)
    .exact .inl h
    .exact .inr (.inr h)
theorem oZ(l:List bD)(x:bD):x∈fC l↔x∈l:=by
 refine eS (P:=λl=>x∈fC l↔x∈l) (by simp[fC]) (λl a ih=>?_) l;rw[o8,IF,ih];simp only[ZI,aAY];constructor
 .rintro(h|h)
  .exact .inr h
  .exact .inl h
 .rintro(h|h)
  .exact .inr h
  .exact .inl h
theorem HM{l:List bD}(h:lK l):fC l=l:=F7 (wN l) h (oZ l)
theorem pI(a b:List bD)(x:bD):x∈fJ a b↔x∈a\/x∈b:=by
 fun_induction fJ a b with
 | case1 b=>simp
 | case2 a h=>simp
 | case3 y l z m h ih=>simp only[Y6,ih];simp only[or_assoc]
 | case4 y l z m h1 h2 ih=>
  have:=FO y z h2;subst this;simp only[Y6,ih];constructor
  .rintro(h|h|h)
   .exact .inl (.inl h)
   .exact .inl (.inr h)
   .exact .inr (.inr h)
  .rintro((h|h)|(h|h))
   .exact .inl h
   .exact .inr (.inl h)
   .exact .inl h
   .exact .inr (.inr h)
 | case5 y l z m h1 h2 ih=>
  simp only[Y6,ih];constructor
  .rintro(h|(h|h)|h)
   .exact .inr (.inl h)
   .exact .inl (.inl h)
   .exact .inl (.inr h)
   .exact .inr (.inr h)
  .rintro((h|h)|(h|h))
   .exact .inr (.inl (.inl h))
   .exact .inr (.inl (.inr h))
   .exact .inl h
   .exact .inr (.inr h)
theorem Ck(a b:List bD):lK a->lK b->lK (fJ a b):=by
 fun_induction fJ a b with
 | case1 b=>intro _ h;exact h
 | case2 a h=>intro h _;exact h
 | case3 y l z m h ih=>
  intro h1 h2;unfold lK at h1 h2 |-;have h1':=Zn.1 h1;have h2':=Zn.1 h2;refine Zn.2 ⟨λx hx=>?_,ih h1'.2 h2⟩;rcases(pI _ _ _).1 hx with hx|hx
  .exact h1'.1 x hx
  .rcases Y6.1 hx with rfl|hx
   .exact h
   .have:=h2'.1 x hx;exact Io h om
 | case4 y l z m hn he ih=>
  intro h1 h2;unfold lK at h1 h2 |-;have h1':=Zn.1 h1;have h2':=Zn.1 h2;have:=FO y z he;subst this;refine Zn.2 ⟨λx hx=>?_,ih h1'.2 h2'.2⟩;rcases(pI _ _ _).1 hx with hx|hx
  .exact h1'.1 x hx
  .exact h2'.1 x hx
 | case5 y l z m hn he ih=>
  intro h1 h2;unfold lK at h1 h2 |-;have h1':=Zn.1 h1;have h2':=Zn.1 h2;have hzy:=La (a:=y) (b:=z) om;refine Zn.2 ⟨λx hx=>?_,ih h1 h2'.2⟩;rcases(pI _ _ _).1 hx with hx|hx
  .rcases Y6.1 hx with rfl|hx
   .exact hzy
   .have:=h1'.1 x hx;exact Io hzy om
  .exact h2'.1 x hx
theorem Je{a b:List bD}(h1:lK a)(h2:lK b):fJ a b=fC (a++b):=
 F7 (Ck a b h1 h2) (wN _) λx=>by rw[pI,oZ,ZI]
theorem Cs:∀(r l:List Nd),∃m,aS (l++r)=aS l++m
 | [],l=>⟨[],sq⟩
 | x::r,l=>by
  obtain⟨m,hm⟩:=Cs r (l++[x]);refine⟨dQ x (aS l)::m, ?_⟩;have e:l++x::r=l++[x]++r:=sq
  rw[e,hm,jI];simp
theorem RG{a b:List iF}{k:Int}(h0:0<=k)(h:k<a.length):dV (a++b) k=dV a k:=by
 unfold dV;rw[Yx,Yx,ZK om]
theorem kT{ns:List Nd}{n:Nat}{k:Int}(h0:0<=k)(h:k<n)(hn:n<=ns.length):dV (aS (ns.take n)) k=dV (aS ns) k:=by
 obtain⟨m,hm⟩:=Cs (ns.drop n) (ns.take n);rw[List.take_append_drop] at hm;rw[hm,RG h0 (by rw[f8,ZO];omega)]
theorem Cx{b1 b2:List iF}{l:List Int}(h:∀k∈l,dV b1 k=dV b2 k):mL b1 l=mL b2 l:=by
 have:∀(l:List Int) (a:List bD × Bool),(∀k∈l,dV b1 k=dV b2 k)->l.foldl (bU b1) a=l.foldl (bU b2) a:=by
  intro l
  induction l with
  | nil=>intro a _;rfl
  | cons k r ih=>
   intro a h;simp only[ZY];have e:bU b1 a k=bU b2 a k:=by unfold bU;rw[h k sq]
   rw[e];exact ih _ λq hq=>h q (by simp[hq])
 unfold mL;rw[this l _ h]
theorem Bc{b1 b2:List iF}:∀(l:List Int) (rows:List (List bD)),(∀k∈l,dV b1 k=dV b2 k)->fM b1 l rows=fM b2 l rows
 | [],rows,_=>rfl
 | k::r,rows,h=>by
  simp only[fM,h k sq];split
  .rfl
  .exact Bc r _ λq hq=>h q (by simp[hq])
theorem Bi{b1 b2:List iF}{x:Nd}(h:∀k∈x.kids,dV b1 k=dV b2 k):dQ x b1=dQ x b2:=by
 unfold dQ;split
 .rfl
 .split
  .rfl
  .split
   .unfold p7;rw[Bc x.kids _ h]
   .split
    .exact Cx λk hk=>h k (Zr hk)
    .exact Cx h
theorem D4{ns:List Nd}(hg:∀(j:Nat) (x:Nd),ns[j]? = some x->lL j x){i:Nat}{x:Nd}(hx:ns[i]? = some x):dV (aS ns) i=dQ x (aS ns):=by
 obtain⟨hi,he⟩:=Y0.1 hx;have e1:dV (aS (ns.take (i+1))) i=dV (aS ns) i:=kT om om om;rw[<-e1,List.take_succ_eq_append_getElem hi,jI,he];rw[(IU (b:=dQ x (aS (ns.take i))) (show (0:Int)<=i by omega)).2 (by rw[f8,ZO];omega)];refine Bi λk hk=>?_
 obtain⟨j,hj⟩:=ZV hk;obtain⟨h0,h1⟩:=(hg i x hx).kids j k hj;exact kT h0 h1 om
theorem BK:∀{a b:List bD} {x y:bD},a.length=b.length->gJ (a++[x]) (b++[y])=andThen (gJ a b) (cN x y)
 | [],[],x,y,_=>by
  simp only[Zi,gJ,andThen];split
  .rename_i h;rw[h];rfl
  .rfl
 | [],_::_,_,_,h=>by simp at h
 | _::_,[],_,_,h=>by simp at h
 | a::l,b::m,x,y,h=>by
  simp only[Zo,gJ];rw[BK (su h)];unfold andThen;repeat' split
  all_goals first|rfl|omega
def QL(n:Nat)(rows:List (List bD)):Prop:=(∀r∈rows,r.length=n)/\rows.Pairwise λa b=>gJ a b<0
theorem ND{n:Nat}{rows:List (List bD)}{l:List bD}(h:QL n rows)(hl:lK l):QL (n+1) (gU rows l):=by
 obtain⟨h1,h2⟩:=h;refine⟨λr hr=>?_, ?_⟩
 .obtain⟨r',h3,v,_,rfl⟩:=wW hr;simp[h1 r' h3]
 .unfold gU
  induction rows with
  | nil=>simp
  | cons a rs ih=>
   rw[Zn] at h2;rw[aAP,List.pairwise_append];refine⟨?_,ih (λr hr=>h1 r (by simp[hr])) h2.2, ?_⟩
   .rw[aB6];refine hl.imp fun {x y} hxy=>?_
    rw[BK rfl,(BM a).refl];simpa[andThen] using hxy
   .intro p hp q hq;obtain⟨v,_,rfl⟩:=ZL.1 hp;obtain⟨r',h3,u,_,rfl⟩:=wW (rows:=rs) (l:=l) hq;have:=h2.1 r' h3;rw[BK (by rw[h1 a sq,h1 r' (by simp[h3])])];unfold andThen;split
    .omega
    .exact this
theorem Er{bs:List iF}(hb:∀b∈bs,lK b.vals):∀(kids:List Int) (n:Nat) (rows out:List (List bD)),QL n rows->fM bs kids rows=some out->QL (n+kids.length) out
 | [],n,rows,out,h,h2=>by
  simp only[fM] at h2;cases h2;exact h
 | k::ks,n,rows,out,h,h2=>by
  simp only[fM] at h2;split at h2
  .cases h2
  .have hs:lK (dV bs k).vals:=by
    unfold dV;rw[Yx];cases e:bs[k.toNat]? with
    | none=>simp[lK]
    | some b=>exact hb b (Y2 e)
   have:=Er hb ks (n+1) _ out (ND h hs) h2;simp only[Zc];rw[show n+(ks.length+1)=n+1+ks.length by omega];exact this
theorem OT(name:List UInt8)(a b:List bD):cN (d8 name a) (d8 name b)=gJ a b:=by
 unfold d8;split<;>simp[cN,(lN _).refl,(rH _).refl,andThen]
theorem P3{n:Nat}{rows:List (List bD)}(name:List UInt8)(h:QL n rows):lK (rows.map (d8 name)):=by
 unfold lK;rw[aB6];exact h.2.imp fun {a b} h=>by rw[OT];exact h
theorem NF(lo hi:Int):lK (iE lo hi):=by
 unfold lK iE;rw[aB6];refine List.pairwise_lt_range.imp fun {i j} h=>?_
 rw[QF rfl om];rw[Y4 om];omega
theorem NW{x:Nd}{bs:List iF}:lK (dQ x bs).vals:=by
 unfold dQ;split
 .simp[lK]
 .split
  .split
   .simp[lK]
   .exact NF _ _
  .split
   .unfold p7;split
    .simp[lK]
    .exact wN _
   .generalize (if x.kind=4 then x.kids.drop 1 else x.kids)=ks;unfold mL;split
    .simp[lK]
    .have:∀(l:List Int) (a:List bD × Bool),lK a.1->lK (l.foldl (bU bs) a).1:=by
      intro l
      induction l with
      | nil=>intro a h;exact h
      | cons k r ih=>intro a _;exact ih _ (wN _)
     exact this _ _ (by simp[lK])
theorem DD(ns:List Nd):∀b∈aS ns,lK b.vals:=by
 refine eS (P:=λns=>∀b∈aS ns,lK b.vals) (by simp[aS]) (λl x ih=>?_) ns;rw[jI];intro b hb;rcases ZI.1 hb with hb|hb
 .exact ih b hb
 .simp at hb;rw[hb];exact NW
theorem Rm{bs:List iF}(hb:∀b∈bs,lK b.vals)(k:Int):lK (dV bs k).vals:=by
 unfold dV;rw[Yx];cases h:bs[k.toNat]? with
 | none=>simp[lK]
 | some b=>exact hb b (Y2 h)
theorem Me{bs:List iF}(hb:∀b∈bs,lK b.vals){x:Nd}{rows:List (List bD)}(h:fM bs x.kids [[]]=some rows):p7 bs x=⟨rows.map (d8 x.name),false⟩:=by
 unfold p7;rw[h];simp only;rw[HM (P3 _ (Er hb x.kids 0 [[]] rows ⟨sq,sq⟩ h))]
def rowAt:List (List bD)->Nat->List bD
 | [],_=>[]
 | l::r,k=>rowAt r (k/l.length)++(l[k%l.length]?).toList
def rT:List (List bD)->List (List bD)
 | []=>[[]]
 | l::r=>gU (rT r) l
def kK:List (List bD)->Nat
 | []=>1
 | l::r=>kK r*l.length
theorem BF:∀ls:List (List bD),(rT ls).length=kK ls
 | []=>rfl
 | l::r=>by rw[rT,wO,kK,BF r]
theorem FC(l:List bD):∀(rows:List (List bD)) (k:Nat) (a:List bD) (v:bD),rows[k/l.length]? = some a->l[k%l.length]? = some v->(gU rows l)[k]? = some (a++[v])
 | [],k,a,v,h,_=>by simp at h
 | r::rs,k,a,v,h,hv=>by
  have hpos:0<l.length:=by
   rcases ZC l.length with h0|h0
   .have:l=[]:=Zu.1 h0;subst this;simp at hv
   .exact h0
  unfold gU;rw[aAP];rcases ZG k l.length with hk|hk
  .rw[ZK (su hk)];rw[aAj hk] at h;rw[Zs hk] at hv;simp at h;subst h;simp[hv]
  .rw[ZM (su hk),aAs];have e1:k/l.length=(k-l.length)/l.length+1:=by
    conv=>lhs;rw[show k=(k-l.length)+l.length by omega]
    exact Nat.add_div_right _ hpos
   have e2:k%l.length=(k-l.length)%l.length:=(Nat.mod_eq_sub_mod hk)
   rw[e1] at h;rw[e2] at hv;exact FC l rs (k-l.length) a v (su h) hv
theorem FZ:∀(ls:List (List bD)) (k:Nat),k<kK ls->(rT ls)[k]? = some (rowAt ls k)
 | [],k,h=>by
  simp[kK] at h;subst h;rfl
 | l::r,k,h=>by
  simp only[kK] at h;have hpos:0<l.length:=by
   rcases ZC l.length with h0|h0
   .rw[h0] at h;simp at h
   .exact h0
  have h1:k/l.length<kK r:=Nat.div_lt_of_lt_mul (by rw[ZX];exact h);have h2:=Zx k hpos;have e:=Yw h2;rw[rT,rowAt,e];exact FC l _ k _ _ (FZ r _ h1) e
theorem FK{bs:List iF}:∀(kids:List Int) (ls:List (List bD)),kK ls<=1024 ->
  fM bs kids (rT ls)=if (kids.foldl (λ(a:Nat × Bool) k=>(a.1*(dV bs k).vals.length,a.2 || (dV bs k).many || decide (1024<a.1*(dV bs k).vals.length))) (kK ls,false)).2 then none
   else some (rT (kids.reverse.map (λk=>(dV bs k).vals)++ls))
 | [],ls,h=>by simp[fM]
 | k::r,ls,h=>by
  have stay:∀(l:List Int) (n:Nat),(l.foldl (λ(a:Nat × Bool) k=>(a.1*(dV bs k).vals.length,a.2 || (dV bs k).many || decide (1024<a.1*(dV bs k).vals.length))) (n,true)).2=true:=by
   intro l
   induction l with
   | nil=>intro n;rfl
   | cons q l ih=>intro n;simp only[ZY,Bool.true_or];exact ih _
  simp only[fM,ZY,BF,aBi];by_cases hc:(dV bs k).many=true\/1024<kK ls*(dV bs k).vals.length
  .have e:((dV bs k).many || decide (1024<kK ls*(dV bs k).vals.length))=true:=su hc
   rw[Y4 hc,e,Y4 (stay _ _)]
  .have e:((dV bs k).many || decide (1024<kK ls*(dV bs k).vals.length))=false:=by
    rw[not_or] at hc;simp at hc |-;exact hc
   rw[Yz hc,e];rw[not_or] at hc;have:=FK (bs:=bs) r ((dV bs k).vals::ls) (by simp only[kK];omega);simp only[rT,kK] at this;rw[this];simp[List.append_assoc]
def oW(s:List UInt8):List (List UInt8)->Nat->Int
 | [],_=>-1
 | x::r,i=>if x=s then(i:Int) else oW s r (i+1)
def ER(l:List (List UInt8))(s:List UInt8):Int:=oW s l 0
theorem EF{s:List UInt8}:∀(l:List (List UInt8)) (i:Nat),oW s l i = -1\/(i<=oW s l i/\oW s l i<i+l.length)
 | [],i=>.inl rfl
 | x::r,i=>by
  simp only[oW];split
  .right;simp;omega
  .rcases EF (s:=s) r (i+1) with h|h
   .exact .inl h
   .right;simp;omega
def gX(x:Nd):Int:=if x.kind=1 then x.hi-x.lo+1 else if x.kind=2 then x.kids.length else 0
structure AU(x:Nd):Prop where
 ok:sU x
 rng:x.lo<=x.hi/\-4611686018427387904<=x.lo/\x.hi<=4611686018427387904/\x.hi<x.lo+1099511627776
 klen:x.kids.length<=2000
 kl2:x.kind=2->x.kids.length<=1000
 ch:x.kind=2->1<=x.kids.length/\(x.labels.length=0\/x.labels.length=x.kids.length)
theorem uN{x:Nd}(h:AU x):0<=gX x/\gX x<=1099511627776:=by
 have:=h.rng;have:=h.klen;unfold gX;split
 .omega
 .split<;>omega
def N7(s:List UInt8):Option Int:=match Lib.atoiAll s with
 | .ok n=>if Lib.itoa n=s then some n else none
 | _=>none
def zW(a b:Nd)(k:Nat):Int × Bool:=
 if a.kind=1 then(ER b.labels (Lib.itoa (a.lo+k)),decide (0<=ER b.labels (Lib.itoa (a.lo+k))))
 else if b.kind=1 then(if a.labels.length=0 then(0,false) else match N7 (a.labels.getD k []) with
  | some x=>if x<b.lo\/b.hi<x then(0,false) else(x-b.lo,true)
  | none=>(0,false))
 else if a.labels.length=0\/b.labels.length=0 then(k,decide (k<b.kids.length))
 else if k<b.labels.length/\b.labels.getD k []=a.labels.getD k [] then(k,true)
 else(ER b.labels (a.labels.getD k []),decide (0<=ER b.labels (a.labels.getD k [])))
def Al(a b:Nd)(k:Int):Int × Bool:=
 if k<0\/gX a<=k\/gX b=0 then(0,false)
 else if a.kind=1/\b.kind=1 then(min (max (a.lo+k) b.lo) b.hi-b.lo,decide (min (max (a.lo+k) b.lo) b.hi=a.lo+k))
 else if (zW a b k.toNat).2=true then((zW a b k.toNat).1,true) else(min k (gX b-1),false)
theorem nK(ns:List Nd)(h:cH [] ns=0):∀(j:Nat) (x:Nd),ns[j]? = some x->gG j x=0:=by
 refine eS (P:=λns=>cH [] ns=0->∀(j:Nat) (x:Nd),ns[j]? = some x->gG j x=0) (λ_ j x hx=>by simp at hx) (λl x ih h=>?_) ns h;have h1:=jO h;have ih:=ih h1;have hs:=gQ [] l x h1;rw[h] at hs;simp only[Zi] at hs;obtain⟨hg,-,-,-⟩:=gD hs.symm;intro j y hy;rcases ZG j l.length with hj|hj
 .rw[ZK hj] at hy;exact ih j y hy
 .rw[ZM hj] at hy;have e:j-l.length=0:=by
   have:=(Y0.1 hy).1;simp at this;omega
  rw[e] at hy;simp at hy;subst hy;rw[show j=l.length by omega];exact hg
structure Ys(LB:List (List UInt8))(x:Nd):Prop where
 opt:AU x
 lab:∀s∈x.labels,s∈LB
 ll:x.labels.length<=1000
theorem zQ{bs:List iF}:∀(l:List Int) (a:List bD × Bool),a.2=true->(l.foldl (bU bs) a).2=true
 | [],_,h=>h
 | k::r,a,h=>zQ r _ (by simp[bU,h])
theorem zT{l:List bD}(h:l≠[]):fC l≠[]:=by
 cases l with
 | nil=>exact absurd rfl h
 | cons a r=>exact List.ne_nil_of_mem ((oZ (a::r) a).2 sq)
theorem JX{bs:List iF}:∀(l:List Int) (a:List bD × Bool),a.1≠[]->(l.foldl (bU bs) a).1≠[]
 | [],_,h=>h
 | k::r,a,h=>JX r _ (zT (by simp[h]))
theorem UR{bs:List iF}{l:List Int}(hl:l≠[])(h:∀k∈l,(dV bs k).many=false->(dV bs k).vals≠[])(hm:(mL bs l).many=false):(mL bs l).vals≠[]:=by
 unfold mL at hm |-;split at hm
 .simp at hm
 .rename_i hf;rw[Yz hf];simp only;cases l with
  | nil=>exact absurd rfl hl
  | cons k r=>
   simp only[ZY] at hf |-;have hk:(bU bs ([],false) k).2=false:=by
    cases e:(bU bs ([],false) k).2 with
    | false=>rfl
    | true=>exact absurd (zQ r _ e) hf
   refine JX r _ (zT ?_);simp only[bU,aBi,aA8] at hk;simp only[Zi];exact h k sq hk.1
theorem Lp{bs:List iF}:∀(kids:List Int) (rows out:List (List bD)),rows≠[]->(∀k∈kids,(dV bs k).many=false->(dV bs k).vals≠[])->fM bs kids rows=some out->out≠[]
 | [],rows,out,h,_,h2=>by
  simp only[fM] at h2;cases h2;exact h
 | k::ks,rows,out,h,hk,h2=>by
  simp only[fM] at h2;split at h2
  .cases h2
  .rename_i hc;rw[not_or] at hc;refine Lp ks _ out ?_ (λq hq=>hk q (by simp[hq])) h2;have hv:=hk k sq (by simpa using hc.1);have:=wO (dV bs k).vals rows;intro e;rw[e] at this;have a:=aAc.2 h;have b:=aAc.2 hv;have:=aAM a b;simp at *;omega
theorem mX(ns:List Nd)(h:cH [] ns=0):∀(j:Nat) (x:Nd),ns[j]? = some x->iJ (ns.take j) (a8 (ns.take j)) (c7 (ns.take j)) x=0:=by
 intro j x hx;obtain⟨hj,he⟩:=Y0.1 hx;have e:ns=ns.take j++x::ns.drop (j+1):=by
  rw[<-he];simp
 have h1:cH [] (ns.take j)=0:=by
  rw[e] at h;exact jO h
 have h2:cH [] (ns.take j++[x])=0:=by
  have e2:ns=(ns.take j++[x])++ns.drop (j+1):=su e
  rw[e2] at h;exact jO h
 rw[gQ [] _ x h1] at h2;simpa using h2
theorem oU{i:Int}{x:Nd}(h:dL i x=true):(x.kind=2->1<=x.kids.length)/\(x.kind=4->x.kids.length=x.values.length+1):=by
 unfold dL at h;simp only[Y1,Z0,ZR] at h;obtain⟨⟨⟨⟨_,h2⟩,_⟩,h4⟩,_⟩:=h;exact⟨λe=>by rcases h2 with h2|h2<;>omega,λe=>om⟩
theorem iU{i:Int}{x:Nd}(h:gG i x=0):dL i x=true:=by
 unfold gG at h;split at h
 .omega
 .rename_i hf;simpa using hf
theorem Ik(ns:List Nd)(ho:∀x∈ns,sU x)(h:cH [] ns=0):∀(n:Nat) (k:Nat),k<=n->k<ns.length->(dV (aS ns) k).many=false->(dV (aS ns) k).vals≠[]:=by
 have hg:=mT ns ho h;intro n
 induction n with
 | zero=>
  intro k hk hlt hm;have hx:=Yw hlt;have hG:=hg k _ hx;have hst:=mX ns h k _ hx;obtain⟨h1,_,_,h4⟩:=gD hst;have hlen:(ns.take k).length=k:=by simp;omega
  rw[hlen] at h1;have hfp:=oU (iU h1);have hk0:(ns[k]).kids=[]:=by
   cases e:(ns[k]).kids with
   | nil=>rfl
   | cons q r=>have:=hG.kids 0 q (by rw[e];rfl);omega
  rw[D4 hg hx] at hm |-;have hnum:=cQ hG.num;rw[hk0] at hfp;simp at hfp;unfold dQ at hm |-;split
  .simp
  .split
   .split
    .rename_i e;rw[Yz (by assumption),Y4 (by assumption),Y4 e] at hm;simp at hm
    .simp only[iE];intro e;have:=congrArg List.length e;simp at this;omega
   .split
    .unfold p7;rw[hk0];simp[fM,zT]
    .have:=hG.kind;omega
 | succ n ih=>
  intro k hk hlt hm;have hx:=Yw hlt;have hG:=hg k _ hx;have hst:=mX ns h k _ hx;obtain⟨h1,_,_,h4⟩:=gD hst;have hlen:(ns.take k).length=k:=by simp;omega
  rw[hlen] at h1;have hfp:=oU (iU h1);rw[D4 hg hx] at hm |-;have hnum:=cQ hG.num;have hkid:∀q∈(ns[k]).kids,(dV (aS ns) q).many=false->(dV (aS ns) q).vals≠[]:=λq hq=>by
   obtain⟨j,hj⟩:=ZV hq;obtain⟨q0,q1⟩:=hG.kids j q hj;obtain⟨q,rfl⟩:=ZD q0;exact ih q om om
  unfold dQ at hm |-;split
  .simp
  .split
   .split
    .rename_i e;rw[Yz (by assumption),Y4 (by assumption),Y4 e] at hm;simp at hm
    .simp only[iE];intro e;have:=congrArg List.length e;simp at this;omega
   .split
    .rename_i e0 e1 e3;rw[Yz e0,Yz e1,Y4 e3] at hm;unfold p7 at hm |-;split
     .rename_i e;rw[e] at hm;simp at hm
     .rename_i rows e;have:=Lp _ _ _ sq hkid e;exact zT (su this)
    .rename_i e0 e1 e3;rw[Yz e0,Yz e1,Yz e3] at hm;refine UR ?_ (λq hq=>hkid q ?_) hm
     .split
      .rename_i e4;have hb:=h4 e4;have hkl:=hfp.2 e4;unfold jC at hb;simp only at hb;split at hb
       .omega
       .rename_i hmany;split at hb
        .rename_i hs;have hsl:=lO hs;have hq:=hG.kids 0 ((ns[k]).kids.getD 0 0) (by
          rw[Yx];have:0<(ns[k]).kids.length:=om;rw[Yw this];rfl)
         obtain⟨q,hqe⟩:=ZD hq.1;rw[hqe] at hsl hmany hq;simp only[Yy] at hsl hmany;rw[aBe,show min (q+1) k=q+1 by omega,kT om om om] at hsl hmany;have:=ih q om om (su hmany);have:=aAc.2 this;intro e;have:=congrArg List.length e;simp at this;omega
        .omega
      .have:=hG.kind;have:=hfp.1 om;exact List.ne_nil_of_length_pos om
     .split at hq
      .exact Zr hq
      .exact hq
def AA(ss:List Int)(x:Nd):Int:=
 if x.kind=0 then bN x.value else if x.kind=1 then 1 else if x.kind=3 then 1+fR ss x.kids else max 1 (cX ss (eQ x))
theorem LW{ss:List Int}{x:Nd}:AA ss x<=1024↔mJ ss x<=1024:=by
 unfold AA mJ;split
 .rfl
 .split
  .rfl
  .split
   .rfl
   .omega
theorem GN{ns:List Nd}(ho:∀x∈ns,sU x)(h:cH [] ns=0){x:Nd}(hk:x.kind=2\/x.kind=4)(hs:iJ ns (a8 ns) (c7 ns) x=0):∃q∈eQ x,0<=q/\q<ns.length:=by
 obtain⟨h1,_,_,h4⟩:=gD hs;have hfp:=oU (iU h1);have hn:=nL h1;have mem:∀q∈x.kids,0<=q/\q<ns.length:=λq hq=>by
  obtain⟨j,hj⟩:=ZV hq;exact hn.kids j q hj
 rcases hk with e|e
 .unfold eQ;rw[Y4 e];cases hc:x.kids with
  | nil=>have:=hfp.1 e;rw[hc] at this;simp at this
  | cons q r=>exact⟨q,sq,mem q (by rw[hc];simp)⟩
 .unfold eQ;rw[Yz om];have hb:=h4 e;have hkl:=hfp.2 e;have:1<=x.values.length:=by
   unfold jC at hb;simp only at hb;split at hb
   .omega
   .rename_i hmany;split at hb
    .rename_i hs;have hsl:=lO hs;have hlt:0<x.kids.length:=om;have hq:=mem (x.kids.getD 0 0) (by rw[Yx,Yw hlt];exact ZW hlt);obtain⟨q,hqe⟩:=ZD hq.1;rw[hqe] at hsl hmany hq;simp only[Yy] at hsl hmany;rw[kT om om om] at hsl hmany;have:=Ik ns ho h q q om om (su hmany);have:=aAc.2 this;omega
    .omega
  have hlt:1<x.kids.length:=om;refine⟨x.kids[1], ?_,mem _ (ZW hlt)⟩;refine Y2 (i:=0) ?_;rw[ZS];exact Yw hlt
theorem Hp(ns:List Nd)(ho:∀x∈ns,sU x)(h:cH [] ns=0):∀y∈c7 ns,1<=y:=by
 refine eS (P:=λns=>(∀x∈ns,sU x)->cH [] ns=0->∀y∈c7 ns,1<=y) (λ_ _=>by simp[c7]) (λl x ih ho h=>?_) ns ho h;have h1:=jO h;have hol:∀y∈l,sU y:=λy hy=>ho y (Zf _ hy)
 have ih:=ih hol h1;have hs:=gQ [] l x h1;rw[h] at hs;simp only[Zi] at hs;rw[nC];intro y hy;rcases ZI.1 hy with hy|hy
 .exact ih y hy
 .simp at hy;subst hy;have hb:=jH l h1;have hk:=(nL (gD hs.symm).1).kind;unfold mJ;split
  .have:=Et x.value;omega
  .split
   .omega
   .split
    .have:=(jJ om hb.2 x.kids).1;omega
    .obtain⟨q,hq,q0,q1⟩:=GN hol h1 om hs.symm;have:=(pK (ss:=c7 l) (eQ x) 0 q hq).1;have h2:1<=eJ (c7 l) q:=by
      unfold eJ;have hlt:q.toNat<(c7 l).length:=by rw[lX];omega
      rw[Yx,Yw hlt];exact ih _ (ZW hlt)
     unfold cX;omega
theorem Ss{ns:List Nd}(ho:∀x∈ns,sU x)(h:cH [] ns=0){x:Nd}(hs:iJ ns (a8 ns) (c7 ns) x=0):AA (c7 ns) x=mJ (c7 ns) x:=by
 have hk:=(nL (gD hs).1).kind;unfold AA mJ;split
 .rfl
 .split
  .rfl
  .split
   .rfl
   .obtain⟨q,hq,q0,q1⟩:=GN ho h om hs;have:=(pK (ss:=c7 ns) (eQ x) 0 q hq).1;have h2:1<=eJ (c7 ns) q:=by
     unfold eJ;have hlt:q.toNat<(c7 ns).length:=by rw[lX];omega
     rw[Yx,Yw hlt];exact Hp ns ho h _ (ZW hlt)
    unfold cX at *;omega
theorem Ln{a b:List Int}{k:Int}(h0:0<=k)(h:k<a.length):eJ (a++b) k=eJ a k:=by
 unfold eJ;rw[Yx,Yx,ZK om]
theorem Dk{a b:List Int}{l:List Int}(h:∀k∈l,eJ a k=eJ b k):fR a l=fR b l:=by
 unfold fR;have:∀(l:List Int) (s:Int),(∀k∈l,eJ a k=eJ b k)->l.foldl (λs k=>s+eJ a k) s=l.foldl (λs k=>s+eJ b k) s:=by
  intro l
  induction l with
  | nil=>intro s _;rfl
  | cons k r ih=>intro s h;simp only[ZY];rw[h k sq];exact ih _ λq hq=>h q (by simp[hq])
 exact this l 0 h
theorem vL{a b:List Int}{l:List Int}(h:∀k∈l,eJ a k=eJ b k):cX a l=cX b l:=by
 unfold cX;have:∀(l:List Int) (s:Int),(∀k∈l,eJ a k=eJ b k)->l.foldl (λs k=>max s (eJ a k)) s=l.foldl (λs k=>max s (eJ b k)) s:=by
  intro l
  induction l with
  | nil=>intro s _;rfl
  | cons k r ih=>intro s h;simp only[ZY];rw[h k sq];exact ih _ λq hq=>h q (by simp[hq])
 exact this l 0 h
theorem DE{x:Nd}{q:Int}(h:q∈eQ x):q∈x.kids:=by
 unfold eQ at h;split at h
 .exact h
 .exact Zr h
theorem yJ{a b:List Int}{x:Nd}(h:∀k∈x.kids,eJ a k=eJ b k)(h4:x.kind=4->0<x.kids.length)(hk:0<=x.kind/\x.kind<=4):fN a x=fN b x:=by
 unfold fN;split
 .rfl
 .split
  .rfl
  .split
   .exact Dk h
   .split
    .rw[vL λq hq=>h q (DE hq)]
    .have:0<x.kids.length:=h4 om;rw[vL λq hq=>h q (DE hq),h (x.kids.getD 0 0) (by rw[Yx,Yw this];exact ZW this)]
theorem J5{a b:List Int}{x:Nd}(h:∀k∈x.kids,eJ a k=eJ b k):AA a x=AA b x:=by
 unfold AA;rw[Dk h,vL λq hq=>h q (DE hq)]
end Go.Ax
namespace Go.Ax
open Go
structure iL(ns:List Nd)(n:Nat):Prop where
 hn:n<=ns.length
 len:ns.length<=4096
 ok:∀x∈ns,sU x
 val:cH [] (ns.take n)=0
variable {ns:List Nd} {n:Nat}
theorem iL.okT(h:iL ns n):∀x∈ns.take n,sU x:=λx hx=>h.ok x (Zg hx)
theorem iL.goodT(h:iL ns n):∀(j:Nat) (x:Nd),(ns.take n)[j]? = some x->lL j x:=mT _ h.okT h.val
theorem rC{i:Nat}{x:Nd}(hi:i<n)(hx:ns[i]? = some x):(ns.take n)[i]? = some x:=by rw[Za,Y4 hi];exact hx
theorem iL.node(h:iL ns n){i:Nat}{x:Nd}(hi:i<n)(hx:ns[i]? = some x):lL i x:=h.goodT i x (rC hi hx)
theorem iL.atE(h:iL ns n){k:Int}(h0:0<=k)(h1:k<n):dV (aS (ns.take n)) k=dV (aS ns) k:=kT h0 h1 h.hn
theorem iL.vals(h:iL ns n){k:Int}(h0:0<=k)(h1:k<n):(dV (aS ns) k).vals.length<=1024/\∀v∈(dV (aS ns) k).vals,iG v:=by
 rw[<-h.atE h0 h1];exact vN (oA _ h.goodT) k
theorem iL.at(h:iL ns n){i:Nat}{x:Nd}(hi:i<n)(hx:ns[i]? = some x):dV (aS ns) i=dQ x (aS ns):=by
 rw[<-h.atE om om,D4 h.goodT (rC hi hx)];refine Bi λk hk=>?_
 obtain⟨j,hj⟩:=ZV hk;obtain⟨h0,h1⟩:=(h.node hi hx).kids j k hj;exact h.atE h0 om
theorem Xy(ns:List Nd)(k:Int):lK (dV (aS ns) k).vals:=Rm (DD ns) k
theorem iL.ne(h:iL ns n){k:Int}(h0:0<=k)(h1:k<n)(hm:(dV (aS ns) k).many=false):(dV (aS ns) k).vals≠[]:=by
 rw[<-h.atE h0 h1] at hm |-;obtain⟨k,rfl⟩:=ZD h0;exact Ik _ h.okT h.val k k (Y8 _) (by rw[ZO];have:=h.hn;omega) hm
theorem iL.step(h:iL ns n){i:Nat}{x:Nd}(hi:i<n)(hx:ns[i]? = some x):iJ (ns.take i) (a8 (ns.take i)) (c7 (ns.take i)) x=0:=by
 have:=mX _ h.val i x (rC hi hx)
 rwa [aBe,Z1 om] at this
theorem iL.nodeOK(h:iL ns n){i:Nat}{x:Nd}(hi:i<n)(hx:ns[i]? = some x):F4 i x:=by
 have:=nL (gD (h.step hi hx)).1
 rwa [ZO,Z1 (by have:=h.hn;omega)] at this
theorem Tn{bs:List iF}{kids:List Int}{j:Nat}{k:Int}{a:List bD × Bool}(hk:kids[j]? = some k)(h:(kids.take j).foldl (bU bs) ([],false)=a) :
  (kids.take (j+1)).foldl (bU bs) ([],false)=bU bs a k:=by
 obtain⟨hj,he⟩:=Y0.1 hk;rw[List.take_succ_eq_append_getElem hj,Zz,h,he];rfl
theorem LE{bs:List iF}{kids:List Int}{j:Nat}(h:((kids.take j).foldl (bU bs) ([],false)).2=true):mL bs kids=⟨[],true⟩:=by
 have e:(kids.foldl (bU bs) ([],false)).2=true:=by
  conv=>lhs;rw[<-List.take_append_drop j kids,Zz]
  exact zQ _ _ h
 unfold mL;rw[Y4 e]
theorem OB{bs:List iF}{kids:List Int}{out:List bD}(h:kids.foldl (bU bs) ([],false)=(out,false)):mL bs kids=⟨out,false⟩:=by
 unfold mL;rw[h];rfl
def g7(bs:List iF)(a:Nat × Bool)(k:Int):Nat × Bool:=(a.1*(dV bs k).vals.length,a.2 || (dV bs k).many || decide (1024<a.1*(dV bs k).vals.length))
theorem Iu{bs:List iF}:∀(l:List Int) (a:Nat × Bool),a.2=true->(l.foldl (g7 bs) a).2=true
 | [],_,h=>h
 | k::r,a,h=>Iu r _ (by simp[g7,h])
theorem Hv{bs:List iF}(kids:List Int):fM bs kids [[]]=if (kids.foldl (g7 bs) (1,false)).2=true then none else some (rT (kids.map λk=>(dV bs k).vals).reverse):=by
 have:=FK (bs:=bs) kids [] (by simp[kK]);simp only[rT,kK,aAi] at this;rw[this,List.map_reverse];rfl
theorem Tx{bs:List iF}{kids:List Int}{j:Nat}{k:Int}{a:Nat × Bool}(hk:kids[j]? = some k)(h:(kids.take j).foldl (g7 bs) (1,false)=a) :
  (kids.take (j+1)).foldl (g7 bs) (1,false)=g7 bs a k:=by
 obtain⟨hj,he⟩:=Y0.1 hk;rw[List.take_succ_eq_append_getElem hj,Zz,h,he];rfl
theorem R2{bs:List iF}{x:Nd}{j:Nat}(h:((x.kids.take j).foldl (g7 bs) (1,false)).2=true):p7 bs x=⟨[],true⟩:=by
 have e:(x.kids.foldl (g7 bs) (1,false)).2=true:=by
  conv=>lhs;rw[<-List.take_append_drop j x.kids,Zz]
  exact Iu _ _ h
 unfold p7;rw[Hv,Y4 e]
theorem P7{bs:List iF}:∀(kids:List Int) (a:Nat × Bool),(kids.foldl (g7 bs) a).1=a.1*kK (kids.map λk=>(dV bs k).vals).reverse:=by
 intro kids;refine eS (P:=λkids=>∀a:Nat × Bool,(kids.foldl (g7 bs) a).1=a.1*kK (kids.map λk=>(dV bs k).vals).reverse) (λa=>by simp[kK]) (λl x ih a=>?_) kids;rw[Zz,aAQ,List.reverse_append];simp only[ZY,aB2,Z2,List.map_nil,List.reverse_singleton,List.singleton_append,kK];rw[g7,ih a,Nat.mul_assoc]
theorem OZ{bs:List iF}(hb:∀b∈bs,lK b.vals){x:Nd}{t:Nat}(h:x.kids.foldl (g7 bs) (1,false)=(t,false)) :
  p7 bs x=⟨(rT (x.kids.map λk=>(dV bs k).vals).reverse).map (d8 x.name),false⟩/\t=kK (x.kids.map λk=>(dV bs k).vals).reverse:=by
 have hr:fM bs x.kids [[]]=some (rT (x.kids.map λk=>(dV bs k).vals).reverse):=by
  rw[Hv,h];rfl
 refine⟨Me hb hr, ?_⟩;have:=P7 (bs:=bs) x.kids (1,false);rw[h] at this;simpa using this
theorem KO{ls:List (List bD)}{q kk:Nat}{l:List bD}{v:bD}(hl:ls[q]? = some l)(hv:l[kk%l.length]? = some v) :
  rowAt (ls.take (q+1)).reverse kk=rowAt (ls.take q).reverse (kk/l.length)++[v]:=by
 obtain⟨h1,h2⟩:=Y0.1 hl;rw[List.take_succ_eq_append_getElem h1,List.reverse_append,h2];simp only[List.reverse_singleton,List.singleton_append,rowAt,hv];rfl
end Go.Ax
