/- A part of the proof. -/
import Derived.Test.YthggfhnnkclooaaGreatDoorAx10
set_option linter.unusedSectionVars false
set_option linter.unusedVariables false
set_option linter.unusedSimpArgs false
set_option maxRecDepth 1000000
set_option maxHeartbeats 16000000
namespace Go.Proofs.YthggfhnnkclooaaGreatDoor
open Go Go.Ax Go.Proofs Tryz
theorem Me(l:List Nat)(k:Nat):(bA l).take k=bA (l.take k):=by unfold bA;rw[List.map_take]
theorem jE{i n:Nat}(h:i<n):Nat.blt ((i:Nat):Int).toNat n=true:=Y2 B' 
theorem z8{l:List Nat}{i d:Nat}(h:l[i]? = some d):(bA l)[((i:Nat):Int).toNat]? = some (.int .u32 (d:Int)):=by rw[Y1,Hd,h];rfl
theorem mU{l:List Nat}{i d:Nat}(h:l[i]? = some d):(bA l)[0+((i:Nat):Int).toNat]? = some (.int .u32 (d:Int)):=by rw[ZP];exact z8 h
theorem Kf{j n:Nat}(h:j<=n):(Nat.ble 0 ((j:Nat):Int).toNat && (Nat.ble ((j:Nat):Int).toNat n && Nat.ble n n))=true:=by
 rw[Y1,Y2 (aAA _),Y2 h,Y2 (ZA _)];rfl
theorem xL(l:List Nat)(hl:l.length<=4294967296):aU prog [] 86 [.il 1 (bA l)] (.il 1 (bA (eB l))):=by
 refine aD bI func86 rfl ?_;refine Z ?_;refine bJ.at bI (λk:Nat=>k<=l.length/\eB (l.take k)=eB l) (λk=>⟨[(0,.il 1 (bA (l.take k)))],[],0,21⟩) (λk=>k) l.length [] ⟨ZA _,by rw[ZK]⟩
  (b9 ⟨⟨_,rfl,.eq (.il' (aO _)) (by rw[ZK])⟩,trivial⟩) ?_
 rintro k ⟨hk,ht⟩;refine Z ?_;have hlk:(bA (l.take k)).length=k:=by rw[aT,ZQ];omega
 rw[hlk];refine aL (λhb=>?_) (λhb=>?_)
 .rw[hb];have hk0:0<k:=su hb
  obtain⟨j,rfl⟩:∃j,k=j+1:=⟨k-1,om⟩
  obtain⟨d,hd⟩:∃d,l[j]? = some d:=⟨_,Yz om⟩
  have hw:IntKind.i64.wrap (((j+1:Nat):Int)-1)=(j:Int):=Y'
  have hg:(l.take (j+1))[j]? = some d:=by rw[Zb,Y7 om];exact hd
  have e1:=z8 hg;have hts:eB (l.take (j+1))=if d=0 then eB (l.take j) else l.take (j+1):=by
   have e:=rM hd;rw[e,tJ]
  refine Z ?_;rw[hlk,hw];refine aC e1 ?_;refine Rt ?_;refine aL (λhc=>?_) (λhc=>?_)
  .have hd0:d=0:=su hc
   refine Z ?_;rw[hlk,hw];refine aK (Kf om) ?_;refine Z ?_;exact .mk j [] ⟨om,by rw[Y7 hd0] at hts;rw[<-hts];exact ht⟩ (b9 ⟨⟨_,rfl,.eq (.il' (aO _)) (by simp[bA,<-List.map_take,aBb])⟩,trivial⟩) om
  .refine Z ?_;have hd0:d≠0:=su hc
   rw[Y3 hd0] at hts;rw[<-ht,hts];exact aA (.il' (aO _)) C'
 .try rw[hb]
  have hk0:k=0:=by simp at hb;omega
  subst hk0;refine Z ?_;rw[<-ht];exact aA (.il' (aO _)) C' 
theorem UY(x y:Nat)(hx:(dg 4294967296 x).length<=4294967296):aU prog [] 116 [.il 1 (bA (dg 4294967296 x)),.il 1 (bA (dg 4294967296 y))] (.int .i64 (fJ x y)):=by
 refine aD bI func116 rfl ?_;refine Z ?_;rw[aT,aT];have hB:(2:Nat)<=4294967296:=H'
 have hla:=eJ hB x;have hlb:=eJ hB y;have hva:=fM hB x;have hvb:=fM hB y;have hL:(dg 4294967296 x).length<(dg 4294967296 y).length->fJ (x:Int) y = -1:=λh=>by have:=o6 hB h;unfold fJ;rw[Y7 om]
 have hG:(dg 4294967296 y).length<(dg 4294967296 x).length->fJ (x:Int) y=1:=λh=>by have:=o6 hB h;unfold fJ;rw[Y3 om,Y7 om]
 generalize dg 4294967296 x=a at *;generalize dg 4294967296 y=b at *;refine aL (λhb=>?_) (λhb=>?_)
 .have hne:a.length≠b.length:=λe=>by rw[e] at hb;simp at hb
  refine Z ?_;rw[aT,aT];refine aL (λhc=>?_) (λhc=>?_)
  .refine Z ?_;rw[hL (su hc)];exact aA nn C'
  .refine Z ?_;rw[hG (by simp at hc;omega)];exact aA nn C'
 .have heq:a.length=b.length:=by simp at hb;omega
  refine Z ?_;refine bJ.at bI (λm:Nat=>m<=a.length/\a.drop m=b.drop m) (λm=>⟨[(0,.il 1 (bA a)),(1,.il 1 (bA b)),(5,.int .i64 ((m:Int)-1))],[],0,41⟩) (λm=>m) a.length [] ⟨ZA _,by rw[aAn,heq,aAn]⟩
   (b9 ⟨aP (.il' (aO _)),aP (.il' (aO _)),⟨_,rfl,.w64 (by rw[aT]) oq⟩,trivial⟩) ?_
  rintro m ⟨hm,hd⟩;refine Z ?_;refine aL (λhc=>?_) (λhc=>?_)
  .have hm1:0<m:=by simp at hc;omega
   obtain⟨i,rfl⟩:∃i,m=i+1:=⟨m-1,om⟩
   rw[show (((i+1:Nat):Int)-1)=(i:Int) by omega];obtain⟨u,hu⟩:∃u,a[i]? = some u:=⟨_,Yz om⟩
   obtain⟨v,hv⟩:∃v,b[i]? = some v:=⟨_,Yz om⟩
   have e1:=z8 hu;have e2:=z8 hv;refine Z ?_;repeat((first|refine aC e1 ?_|refine aC e2 ?_|refine bK ?_);refine Z ?_)
   refine aL (λhc=>?_) (λhc=>?_)
   .have huv:u<v:=by simp at hc;omega
    have:=oZ hla hB hd hu hv huv heq;refine Z ?_;rw[show fJ (x:Int) y = -1 by unfold fJ;rw[Y7 om]];exact aA nn C'
   .refine Z ?_;repeat((first|refine aC e1 ?_|refine aC e2 ?_|refine bK ?_);refine Z ?_)
    refine aL (λhc2=>?_) (λhc2=>?_)
    .have huv:v<u:=by simp at hc2;omega
     have:=oZ hlb hB hd.symm hv hu huv heq.symm;refine Z ?_;rw[show fJ (x:Int) y=1 by unfold fJ;rw[Y3 om,Y7 om]];exact aA nn C'
    .have huv:u=v:=by simp at hc hc2;omega
     refine Z ?_;exact .mk i [] ⟨om,by
       obtain⟨h1,h2⟩:=Y4.1 hu;obtain⟨h3,h4⟩:=Y4.1 hv;rw[List.drop_eq_getElem_cons h1,List.drop_eq_getElem_cons h3,h2,h4,huv,hd]⟩
      (b9 ⟨aP (.il' (aO _)),aP (.il' (aO _)),⟨_,rfl,.w64 rfl oq⟩,trivial⟩) om
  .have hm0:m=0:=by simp at hc;omega
   subst hm0;simp only[ZT] at hd;subst hd;refine Z ?_;rw[show fJ (x:Int) y=0 by rw[<-hva,hvb];simp[fJ]];exact aA nn C' 
theorem hT:(2:Nat)<=10000:=H'
theorem tD(l:List Nat):NN (.il 1 (bX l)):=.il' (fG l)
theorem zG(b:Bool):NN (.bool b):=.bool b
theorem fO(b:Bool)(l:List Nat):NN (.agg [.bool b,.il 1 (bX l)]):=.agg' au 
theorem Yb:jR [.agg [.bool false,.nsl]]:=.cons (.agg' (.cons (zG _) (.cons .nsl .nil))) .nil
theorem eG(x:Int):fW x = .agg [.bool (decide (x<0)),.il 1 (bX (dg 10000 x.natAbs))]:=rfl
theorem Sh(neg:Bool)(n:Nat):fW (sg neg n) = .agg [.bool (neg && decide (0<n)),.il 1 (bX (dg 10000 n))]:=by
 unfold fW;rw[Du,OZ]
theorem vU{l:List Nat}{i d:Nat}(h:l[i]? = some d):(bX l)[((i:Nat):Int).toNat]? = some (.int .i64 (d:Int)):=by rw[Y1,Oq,h];rfl
theorem OQ{l:List Nat}{i d:Nat}(h:l[i]? = some d):(bX l)[0+((i:Nat):Int).toNat]? = some (.int .i64 (d:Int)):=by rw[ZP];exact vU h
theorem NK(l:List Nat)(k:Nat):(bX l).drop k=bX (l.drop k):=by unfold bX;rw[List.map_drop]
theorem QX(neg:Bool)(l:List Nat)(hl:l.length<=4294967296):aU prog [] 98 [.bool neg,.il 1 (bX l)] (.agg [.bool (neg && decide (0<(eB l).length)),.il 1 (bX (eB l))]):=by
 refine aD bI func98 rfl ?_;refine Z ?_;refine bJ.at bI (λk:Nat=>k<=l.length/\eB (l.take k)=eB l) (λk=>⟨[(0,.bool neg),(1,.il 1 (bX (l.take k))),(4,.ptr 0 0 0)],[(0,.row 40 2 [.agg [.bool false,.nsl]])],1,30⟩) (λk=>k) l.length [(0,0)] ⟨ZA _,by rw[ZK]⟩
  (aH _ rfl ⟨aF 0 Yb,trivial⟩ ⟨aP (zG _),⟨_,rfl,.eq (tD _) (by rw[ZK])⟩,aM,trivial⟩) ?_
 rintro k ⟨hk,ht⟩;refine Z ?_;have hlk:(bX (l.take k)).length=k:=by rw[aV,ZQ];omega
 rw[hlk];refine aL (λhb=>?_) (λhb=>?_)
 .rw[hb];have hk0:0<k:=su hb
  obtain⟨j,rfl⟩:∃j,k=j+1:=⟨k-1,om⟩
  obtain⟨d,hd⟩:∃d,l[j]? = some d:=⟨_,Yz om⟩
  have hw:IntKind.i64.wrap (((j+1:Nat):Int)-1)=(j:Int):=Y'
  have hg:(l.take (j+1))[j]? = some d:=by rw[Zb,Y7 om];exact hd
  have e1:=vU hg;have hts:eB (l.take (j+1))=if d=0 then eB (l.take j) else l.take (j+1):=by
   have e:=rM hd;rw[e,tJ]
  refine Z ?_;rw[hlk,hw];refine aC e1 ?_;refine Rt ?_;refine aL (λhc=>?_) (λhc=>?_)
  .have hd0:d=0:=su hc
   refine Z ?_;rw[hlk,hw];refine aK (Kf om) ?_;refine Z ?_;exact .mk j [(0,0)] ⟨om,by rw[Y7 hd0] at hts;rw[<-hts];exact ht⟩ (aH _ rfl ⟨aF 0 Yb,trivial⟩ ⟨aP (zG _),⟨_,rfl,.eq (tD _) (by simp[bX,<-List.map_take,aBb])⟩,aM,trivial⟩) om
  .have hd0:d≠0:=su hc
   rw[Y3 hd0] at hts;rw[hts] at ht;rw[<-ht];generalize hL:l.take (j+1)=L at *;have hpos:decide (((bX L).length:Int)>0)=decide (0<L.length):=by rw[aV,Zg];omega
   cases neg with
   | false=>
    refine Rt ?_;exact aA (fO _ _) C'
   | true=>
    refine Z ?_;rw[hpos];refine Rs ?_;exact aA (fO _ _) C'
 .try rw[hb]
  have hk0:k=0:=by simp at hb;omega
  subst hk0;rw[<-ht];generalize hL:l.take 0=L at *;have hL0:L=[]:=by rw[<-hL];rfl
  subst hL0;have hpos:decide ((((bX []):List AV).length:Int)>0)=false:=ef
  cases neg with
  | false=>
   refine Rt ?_;exact aA (fO _ _) C'
  | true=>
   refine Rt ?_;exact aA (fO _ _) C' 
theorem oV(neg:Bool)(l:List Nat)(n:Nat)(hl:l.length<=4294967296)(hd:∀d∈l,d<10000)(hv:vl 10000 l=n):aU prog [] 98 [.bool neg,.il 1 (bX l)] (fW (sg neg n)):=by
 have h:=QX neg l hl;have e:eB l=dg 10000 n:=by rw[jO hT _ hd,hv]
 rw[e] at h;rw[Sh,<-fL hT];exact h
theorem Bc(x y:Nat)(hx:(dg 10000 x).length<=4294967296):aU prog [] 220 [.il 1 (bX (dg 10000 x)),.il 1 (bX (dg 10000 y))] (.int .i64 (fJ x y)):=by
 refine aD bI func220 rfl ?_;refine Z ?_;rw[aV,aV];have hB:=hT;have hla:=eJ hB x;have hlb:=eJ hB y;have hva:=fM hB x;have hvb:=fM hB y;have hL:(dg 10000 x).length<(dg 10000 y).length->fJ (x:Int) y = -1:=λh=>by have:=o6 hB h;unfold fJ;rw[Y7 om]
 have hG:(dg 10000 y).length<(dg 10000 x).length->fJ (x:Int) y=1:=λh=>by have:=o6 hB h;unfold fJ;rw[Y3 om,Y7 om]
 generalize dg 10000 x=a at *;generalize dg 10000 y=b at *;refine aL (λhb=>?_) (λhb=>?_)
 .refine Z ?_;rw[hL (su hb)];exact aA nn C'
 .refine Z ?_;rw[aV,aV];refine aL (λhc=>?_) (λhc=>?_)
  .refine Z ?_;rw[hG (by simp at hc;omega)];exact aA nn C'
  have heq:a.length=b.length:=by simp at hb hc;omega
  refine Z ?_;refine bJ.at bI (λm:Nat=>m<=a.length/\a.drop m=b.drop m) (λm=>⟨[(0,.il 1 (bX a)),(1,.il 1 (bX b)),(5,.int .i64 ((m:Int)-1))],[],0,41⟩) (λm=>m) a.length [] ⟨ZA _,by rw[aAn,heq,aAn]⟩
   (b9 ⟨aP (tD _),aP (tD _),⟨_,rfl,.w64 (by rw[aV]) oq⟩,trivial⟩) ?_
  rintro m ⟨hm,hd⟩;refine Z ?_;refine aL (λhc=>?_) (λhc=>?_)
  .have hm1:0<m:=by simp at hc;omega
   obtain⟨i,rfl⟩:∃i,m=i+1:=⟨m-1,om⟩
   rw[show (((i+1:Nat):Int)-1)=(i:Int) by omega];obtain⟨u,hu⟩:∃u,a[i]? = some u:=⟨_,Yz om⟩
   obtain⟨v,hv⟩:∃v,b[i]? = some v:=⟨_,Yz om⟩
   have e1:=vU hu;have e2:=vU hv;refine Z ?_;repeat((first|refine aC e1 ?_|refine aC e2 ?_|refine bK ?_);refine Z ?_)
   refine aL (λhc=>?_) (λhc=>?_)
   .have huv:u<v:=by simp at hc;omega
    have:=oZ hla hB hd hu hv huv heq;refine Z ?_;rw[show fJ (x:Int) y = -1 by unfold fJ;rw[Y7 om]];exact aA nn C'
   .refine Z ?_;repeat((first|refine aC e1 ?_|refine aC e2 ?_|refine bK ?_);refine Z ?_)
    refine aL (λhc2=>?_) (λhc2=>?_)
    .have huv:v<u:=by simp at hc2;omega
     have:=oZ hlb hB hd.symm hv hu huv heq.symm;refine Z ?_;rw[show fJ (x:Int) y=1 by unfold fJ;rw[Y3 om,Y7 om]];exact aA nn C'
    .have huv:u=v:=by simp at hc hc2;omega
     refine Z ?_;exact .mk i [] ⟨om,by
       obtain⟨h1,h2⟩:=Y4.1 hu;obtain⟨h3,h4⟩:=Y4.1 hv;rw[List.drop_eq_getElem_cons h1,List.drop_eq_getElem_cons h3,h2,h4,huv,hd]⟩
      (b9 ⟨aP (tD _),aP (tD _),⟨_,rfl,.w64 rfl oq⟩,trivial⟩) om
  .have hm0:m=0:=by simp at hc;omega
   subst hm0;simp only[ZT] at hd;subst hd;refine Z ?_;rw[show fJ (x:Int) y=0 by rw[<-hva,hvb];simp[fJ]];exact aA nn C' 
theorem Wr(x:Int)(hx:(dg 10000 x.natAbs).length<=4294967296):aU prog [] 95 [fW x] (fW (-x)):=by
 have h:=oV (!decide (x<0)) (dg 10000 x.natAbs) x.natAbs hx (eJ hT _) (fM hT _);have e:sg (!decide (x<0)) x.natAbs = -x:=by
  unfold sg;by_cases h:x<0
  .simp[h];omega
  .simp[h];omega
 rw[e,eG (-x)] at h;rw[eG x,eG (-x)];generalize decide (-x<0)=b2 at *;generalize dg 10000 (-x).natAbs=a2 at *;generalize dg 10000 x.natAbs=a at *;generalize decide (x<0)=b at *;refine aD bI func95 rfl ?_;refine Z ?_;refine h.go ?_ au (fO _ _);refine Rt ?_;exact aA (fO _ _) C' 
theorem Xf(l:List Nat)(i:Nat)(hl:l.length<=4294967296):aU prog [] 223 [.il 1 (bX l),.int .i64 i] (.int .i64 (l.getD i 0:Nat)):=by
 refine aD bI func223 rfl ?_;refine Z ?_;rw[aV];refine aL (λhb=>?_) (λhb=>?_)
 .have hlt:i<l.length:=su hb
  obtain⟨d,hd⟩:∃d,l[i]? = some d:=⟨_,Yz hlt⟩
  have e1:=vU hd;refine Z ?_;refine aC e1 ?_;refine Z ?_;exact cN (r':=.int .i64 (l.getD i 0:Nat)) (.int (by rw[Y0,hd];rfl)) C'
 .have hge:l.length<=i:=by simp at hb;omega
  refine Z ?_;exact cN (r':=.int .i64 (l.getD i 0:Nat)) (.int (by rw[Y0,ZJ hge];rfl)) C' 
def Ux(c:Nat):aR:=[(0,.row 209 1 [.int .u64 (c:Int)])]
theorem JN(x y c:Nat)(hx:x<4294967296)(hy:y<4294967296)(hc:c<4294967296):aJ prog [] 183 [.int .u32 x,.int .u32 y,.ptr 0 0 0] (Ux c) 1
  λr m n=>r = .int .u32 (((c+(x+y))%4294967296:Nat):Int)/\m=Ux ((c+(x+y))/4294967296)/\n=1:=by
 have e1:IntKind.u64.wrap (x:Int)=(x:Int):=iT om;have e2:IntKind.u64.wrap (y:Int)=(y:Int):=iT om;have e3:IntKind.u64.wrap ((x:Int)+(y:Int))=((x+y:Nat):Int):=cf
 have e4:IntKind.u64.wrap ((c:Int)+((x+y:Nat):Int))=((c+(x+y):Nat):Int):=cf
 refine aD bI func183 rfl ?_;refine Z ?_;rw[e1,e2,e3,e4];refine Z ?_;exact bL (n':=1) (m':=Ux ((c+(x+y))/4294967296)) [(0,0)] rfl ⟨⟨0,_,rfl,rfl,.cons (.one rfl rfl (.int B8)) .nil⟩,trivial⟩ (.int (VA _)) C' 
theorem vF{a b c:Bool}{n bytes:Nat}(ha:a=true)(hb:b=true)(hc:c=true)(h:n<=4294967296)(hby:Nat.ble bytes 4096=true) :
  (a && (b && (c && (decide (0<=(n:Int)) && (decide ((n:Int)<=n) && (decide ((bytes:Int)*n<=281474976710656) && decide ((n:Int)<=9223372036854775807)))))))=true:=by
 have hby:=Y9 hby;have h3:bytes*n<=4096*4294967296:=Z7 hby h;have h4:((bytes:Nat):Int)*(n:Int)=((bytes*n:Nat):Int):=sq
 rw[ha,hb,hc,h4,Y8 om,Y8 om,Y8 om,Y8 om];rfl
theorem kR(k:IntKind)(n:Int):jR [.int k n]:=λa ha=>by
 rw[aA9.1 ha];exact .int _ _
theorem Ul{s:List Nat}{n:Nat}(h:s.length<n):(bA (dY s n))[0+((s.length:Nat):Int).toNat]? = some (.int .u32 0):=mU (QC h)
theorem VF{s:List Nat}{n d:Nat}(h:s.length<n):(bA (dY s n)).set (0+((s.length:Nat):Int).toNat) (.int .u32 (d:Int))=bA (dY (s++[d]) n):=by
 rw[Y1,ZP,iU,OE h]
theorem f0{P:Nat->Prop}{l:List Nat}{d:Nat}(h:∀x∈l,P x)(hd:P d):∀x∈l++[d],P x:=λx hx=>by
 rcases ZO.1 hx with hx|hx
 .exact h x hx
 .rw[aA9.1 hx];exact hd
theorem WS(X Y:List Nat)(hX:∀d∈X,d<4294967296)(hY:∀d∈Y,d<4294967296)(hx:X.length<=1000000)(hy:Y.length<=1000000):aU prog [] 113 [.il 1 (bA X),.il 1 (bA Y)] (.il 1 (bA (dg 4294967296 (vl 4294967296 X+vl 4294967296 Y)))):=by
 have hB:(2:Nat)<=4294967296:=H'
 refine aD bI func113 rfl ?_;refine Z ?_;rw[aT,aT];rcases ZL X.length Y.length with hxy|hxy
 case' inl=>
  rw[Y8 om];obtain⟨S,hS⟩:∃S,S=vl 4294967296 X+vl 4294967296 Y:=cm
  rw[<-hS];have hla:=hY;have hlb:=hX;have hsum:vl 4294967296 Y+vl 4294967296 X=S:=om;generalize Y=a at *;generalize X=b at *;have hx:=hy
 case' inr=>
  rw[ZG om];obtain⟨S,hS⟩:∃S,S=vl 4294967296 X+vl 4294967296 Y:=cm
  rw[<-hS];have hla:=hX;have hlb:=hY;have hsum:vl 4294967296 X+vl 4294967296 Y=S:=om;generalize X=a at *;generalize Y=b at *
 all_goals
  refine Z ?_;have hw1:IntKind.i64.wrap (((bA a).length:Int)+1)=((a.length+1:Nat):Int):=by rw[aT,bF oq];omega
  rw[hw1];refine aK gw ?_;refine Rt ?_;refine bJ.at bI (λp:List Nat × Nat=>p.1.length<=b.length/\(∀d∈p.1,d<4294967296)/\p.2<=1/\vl 4294967296 p.1+4294967296 ^ p.1.length*p.2=vl 4294967296 (a.take p.1.length)+vl 4294967296 (b.take p.1.length))
   (λp=>⟨[(0,.il 1 (bA a)),(1,.il 1 (bA b)),(5,.sl 0 0 (a.length+1)),(6,.ptr 1 0 0),(7,.fn (.func 183) [] [.ptr 1 0 0]),(23,.int .i64 b.length),(24,.int .i64 p.1.length)],[(0,.row 157 1 (bA (dY p.1 (a.length+1)))),(1,.row 209 1 [.int .u64 (p.2:Int)])],2,66⟩)
   (λp=>b.length-p.1.length) ([],0) [(0,0),(1,1)] ⟨sq,sq,sq,by simp[vl]⟩
   (aH _ rfl ⟨⟨0,_,rfl,rfl,.eq (aO _) (by simp[bA,dY])⟩,aF 1 (kR _ _),trivial⟩
    ⟨aP (.il' (aO _)),aP (.il' (aO _)),⟨_,rfl,.slE rfl sq⟩,aM,ig,⟨_,rfl,.int (by rw[aT])⟩,aG,trivial⟩) ?_
  rintro⟨s,c⟩ ⟨h1,h2,h3,h4⟩;simp only at h1 h2 h3 h4 |-;refine Z ?_;refine aL (λhb=>?_) (λhb=>?_)
  .have hlt:s.length<b.length:=su hb
   obtain⟨u,hu⟩:∃u,a[s.length]? = some u:=⟨_,Yz om⟩
   obtain⟨v,hv⟩:∃v,b[s.length]? = some v:=⟨_,Yz om⟩
   have hul:=hla _ (Y5 hu);have hvl:=hlb _ (Y5 hv);have g1:=z8 hu;have g2:=z8 hv;have g3:=Ul (s:=s) (n:=a.length+1) om;have bi:=jE (i:=s.length) (n:=a.length+1) om;refine Z ?_;repeat((first|refine aC g1 ?_|refine aC g2 ?_|refine bK ?_);refine Z ?_)
   refine aJ.useN bI [(1,0)] (JN u v c hul hvl om) rfl (.s (.s (.cons (.ptr 1 0 0 0 rfl) .nil))) ⟨aF 1 (kR _ _),trivial⟩ rfl ?_;rintro r' m' n' ⟨rfl,rfl,rfl⟩;refine⟨[(0,1)],_,[(1,.row 209 1 [.int .u64 (((c+(u+v))/4294967296:Nat):Int)])],16,.same _ nn,⟨aF 0 (kR _ _),trivial⟩,rfl, ?_⟩;refine Rt ?_;repeat((first|refine aK bi ?_|refine aC g3 ?_);refine Rt ?_)
   have hstep:=vI (B:=4294967296) H' (s:=s) (x:=u) (y:=v) rfl h4;have hdv:(c+(u+v))/4294967296<=1:=om;have hmd:(c+(u+v))%4294967296<4294967296:=Zr _ H';exact .mk (s++[(c+(u+v))%4294967296],(c+(u+v))/4294967296) [(0,0),(1,1)] ⟨by simp;omega,f0 h2 hmd,hdv,by simp only[ZB,ZY];rw[iL hu,iL hv];exact hstep⟩
    (aH _ rfl ⟨⟨0,_,rfl,rfl,.eq (aO _) (VF om)⟩,aF 1 (kR _ _),trivial⟩
     ⟨aP (.il' (aO _)),aP (.il' (aO _)),V',aM,ig,aG,Z',trivial⟩) B'
  .skip;have hlt:s.length=b.length:=by simp at hb;omega
   rw[hlt,ZK] at h4;refine Z ?_;refine bJ.at bI (λp:List Nat × Nat=>b.length<=p.1.length/\p.1.length<=a.length/\(∀d∈p.1,d<4294967296)/\p.2<=1/\vl 4294967296 p.1+4294967296 ^ p.1.length*p.2=vl 4294967296 (a.take p.1.length)+vl 4294967296 b)
    (λp=>⟨[(0,.il 1 (bA a)),(5,.sl 0 0 (a.length+1)),(6,.ptr 1 0 0),(7,.fn (.func 183) [] [.ptr 1 0 0]),(9,.int .i64 p.1.length)],[(0,.row 157 1 (bA (dY p.1 (a.length+1)))),(1,.row 209 1 [.int .u64 (p.2:Int)])],2,66⟩)
    (λp=>a.length-p.1.length) (s,c) [(0,0),(1,1)] ⟨by simp only;omega,by simp only;omega,h2,h3,by simp only;rw[hlt];exact h4⟩
    (aH _ rfl ⟨aF 0 (aO _),aF 1 (kR _ _),trivial⟩
     ⟨aP (.il' (aO _)),V',aM,ig,⟨_,rfl,.int (by rw[aT,hlt])⟩,trivial⟩) ?_
   clear h1 h2 h3 h4 hlt hb s c;rintro⟨s,c⟩ ⟨h0,h1,h2,h3,h4⟩;simp only at h0 h1 h2 h3 h4 |-;refine Z ?_;rw[aT];refine aL (λhb=>?_) (λhb=>?_)
   .have hlt:s.length<a.length:=su hb
    obtain⟨u,hu⟩:∃u,a[s.length]? = some u:=⟨_,Yz om⟩
    have hul:=hla _ (Y5 hu);have g1:=z8 hu;have g3:=Ul (s:=s) (n:=a.length+1) om;have bi:=jE (i:=s.length) (n:=a.length+1) om;refine Z ?_;repeat((first|refine aC g1 ?_|refine bK ?_);refine Z ?_)
    refine aJ.useN bI [(1,0)] (JN u 0 c hul H' om) rfl (.s (.s (.cons (.ptr 1 0 0 0 rfl) .nil))) ⟨aF 1 (kR _ _),trivial⟩ rfl ?_;rintro r' m' n' ⟨rfl,rfl,rfl⟩;refine⟨[(0,1)],_,[(1,.row 209 1 [.int .u64 (((c+(u+0))/4294967296:Nat):Int)])],2,.same _ nn,⟨aF 0 (kR _ _),trivial⟩,rfl, ?_⟩;refine Rt ?_;repeat((first|refine aK bi ?_|refine aC g3 ?_);refine Rt ?_)
    have hstep:=vI (B:=4294967296) H' (s:=s) (x:=u) (y:=0) rfl h4;have hdv:(c+(u+0))/4294967296<=1:=om;have hmd:(c+(u+0))%4294967296<4294967296:=Zr _ H';exact .mk (s++[(c+(u+0))%4294967296],(c+(u+0))/4294967296) [(0,0),(1,1)] ⟨by simp;omega,by simp;omega,f0 h2 hmd,hdv,by simp only[ZB,ZY];rw[iL hu];simpa using hstep⟩
     (aH _ rfl ⟨⟨0,_,rfl,rfl,.eq (aO _) (VF om)⟩,aF 1 (kR _ _),trivial⟩
      ⟨aP (.il' (aO _)),V',aM,ig,Z',trivial⟩) B'
   .have hlt:s.length=a.length:=by simp at hb;omega
    rw[hlt,ZK,hsum] at h4;have bi:=jE (i:=s.length) (n:=s.length+1) om;have g3:=Ul (s:=s) (n:=s.length+1) om;have hcw:IntKind.u32.wrap (c:Int)=(c:Int):=JP om;have hz:eB (s++[c])=dg 4294967296 S:=by
     rw[jO hB _ (f0 h2 om),s9,hlt,h4]
    refine Z ?_;rw[aT,<-hlt];refine Rs ?_;repeat((first|refine aK bi ?_|refine aC g3 ?_);refine Rt ?_)
    refine aJ.pre bI [] (mem':=[]) rfl trivial (.cons (.fz' (id:=0) (ys:=bA (s++[c])) rfl rfl (by simp[aT,iH]) (by
     rw[hcw,VF om,ZT,ZD (by rw[aT,iH]<;>simp)];simp[dY]) (aO _)) .nil) ?_
    refine(xL (s++[c]) B').go ?_ (.cons (.il' (aO _)) .nil) (.il' (aO _));rw[hz];refine Z ?_;exact aA (.il' (aO _)) C' 
theorem Xt(x y:Nat)(hx:(dg 4294967296 x).length<=1000000)(hy:(dg 4294967296 y).length<=1000000):aU prog [] 113 [.il 1 (bA (dg 4294967296 x)),.il 1 (bA (dg 4294967296 y))] (.il 1 (bA (dg 4294967296 (x+y)))):=by
 have hB:(2:Nat)<=4294967296:=H'
 have h:=WS _ _ (eJ hB x) (eJ hB y) hx hy;rw[fM hB,fM hB] at h;exact h
def Hv(b n:Nat)(l:List Nat):aR:=[(0,.row 209 1 [.int .u64 (b:Int)]),(1,.row 30 1 [.sl 2 0 n]),(2,.row 157 1 (bA l))]
theorem q9{mem:aR}{J:List (Nat × Nat)}{i j n m:Nat}(h:lk J i=some j)(e:n=m):rY mem J [.sl i 0 n] [.sl j 0 m]:=.cons (.one rfl rfl (.slE h e)) .nil
theorem V5{x y b:Nat}(hx:x<4294967296)(hy:y<4294967296)(hb:b<=1):IntKind.u32.wrap ((x:Int)-IntKind.u32.wrap ((y+b:Nat):Int))=((if y+b>x then x+4294967296-(y+b) else x-(y+b):Nat):Int):=by
 rw[VA,H1];split<;>omega
theorem JI(l:List Nat)(i x y b n:Nat)(hn:l.length=n)(hi:l[i]? = some x)(hx:x<4294967296)(hy:y<4294967296)(hb:b<=1)(hnn:n<=1000000) :
  aJ prog [] 184 [.int .i64 i,.int .u32 y,.ptr 0 0 0,.ptr 1 0 0] (Hv b n l) 3
  λr m k=>r = .tup []/\m=Hv (if y+b>x then 1 else 0) n (l.set i (if y+b>x then x+4294967296-(y+b) else x-(y+b)))/\k=3:=by
 have hil:=(Y4.1 hi).1;have e1:IntKind.u64.wrap (y:Int)=(y:Int):=iT om;have e2:IntKind.u64.wrap ((y:Int)+(b:Int))=((y+b:Nat):Int):=cf
 have e3:IntKind.u64.wrap (x:Int)=(x:Int):=iT om;have g:=mU hi;have bi:=jE (i:=i) (n:=n) om;refine aD bI func184 rfl ?_;refine Z ?_;rw[e1,e2];repeat((first|refine aK bi ?_|refine aC g ?_|refine bK ?_);refine Z ?_)
 rw[e3];have hW:=V5 hx hy hb;refine aL (λhc=>?_) (λhc=>?_)
 all_goals
  refine Rt ?_;repeat((first|refine aK bi ?_|refine aC g ?_);refine Rt ?_)
 .have hc:y+b>x:=by simp at hc;omega
  rw[Y7 hc] at hW |-;rw[Y7 hc];exact bL (n':=3) (m':=Hv 1 n (l.set i (x+4294967296-(y+b)))) [(0,0),(1,1),(2,2)] rfl ⟨aF 0 (kR _ _),⟨1,_,rfl,rfl,q9 rfl rfl⟩,⟨2,_,rfl,rfl,.eq (aO _) (by rw[hW,Y1,ZP,iU])⟩,trivial⟩ cc C'
 .have hc:¬y+b>x:=by simp at hc;omega
  rw[Y3 hc] at hW |-;rw[Y3 hc];exact bL (n':=3) (m':=Hv 0 n (l.set i (x-(y+b)))) [(0,0),(1,1),(2,2)] rfl ⟨aF 0 (kR _ _),⟨1,_,rfl,rfl,q9 rfl rfl⟩,⟨2,_,rfl,rfl,.eq (aO _) (by rw[hW,Y1,ZP,iU])⟩,trivial⟩ cc C' 
theorem uA(B:Nat)(a:List Nat)(i:Nat)(hi:i<=a.length):vl B a=vl B (a.take i)+B ^ i*vl B (a.drop i):=oX B a i hi
theorem GF{s a:List Nat}{u:Nat}(h:a[s.length]? = some u):(s++a.drop s.length)[s.length]? = some u:=by
 rw[ZS (ZA _),aAo,Zd,Zs];exact h
theorem GO{s a:List Nat}{u:Nat}(h:a[s.length]? = some u)(d:Nat):(s++a.drop s.length).set s.length d=(s++[d])++a.drop (s++[d]).length:=by
 obtain⟨h1,h2⟩:=Y4.1 h;rw[Z2 _ _ (ZA _),aAo,List.drop_eq_getElem_cons h1,aAJ,ZB,ZY];simp
theorem Qa{a b:Bool}{n m k:Nat}(ha:a=true)(hb:b=true)(h1:n<=m)(h2:m<=k):(a && (b && (Nat.ble n m && Nat.ble m k)))=true:=by
 rw[ha,hb,Y2 h1,Y2 h2];rfl
theorem Xo(x y:Nat)(hxy:y<=x)(hx:(dg 4294967296 x).length<=1000000):aU prog [] 114 [.il 1 (bA (dg 4294967296 x)),.il 1 (bA (dg 4294967296 y))] (.il 1 (bA (dg 4294967296 (x-y)))):=by
 have hB:(2:Nat)<=4294967296:=H'
 have hla:=eJ hB x;have hlb:=eJ hB y;have hva:=fM hB x;have hvb:=fM hB y;have hlen:(dg 4294967296 y).length<=(dg 4294967296 x).length:=cU hB hxy;generalize dg 4294967296 x=a at *;generalize dg 4294967296 y=b at *;refine aD bI func114 rfl ?_;refine Z ?_;rw[aT];refine aK gw ?_;refine Rt ?_;refine aK (Qa rfl rfl (by rw[aT,Y1];omega) (by rw[aAS];omega)) ?_;refine Rt ?_;refine bJ.at bI (λp:List Nat × Nat=>p.1.length<=b.length/\(∀d∈p.1,d<4294967296)/\p.2<=1/\vl 4294967296 p.1+vl 4294967296 (b.take p.1.length)=vl 4294967296 (a.take p.1.length)+4294967296 ^ p.1.length*p.2)
  (λp=>⟨[(1,.il 1 (bA b)),(5,.ptr 1 0 0),(6,.ptr 0 0 0),(7,.fn (.func 184) [] [.ptr 0 0 0,.ptr 1 0 0]),(18,.il 1 (bA b)),(19,.int .i64 b.length),(20,.int .i64 p.1.length)],Hv p.2 a.length (p.1++a.drop p.1.length),3,47⟩)
  (λp=>b.length-p.1.length) ([],0) [(2,0),(1,1),(0,2)] ⟨sq,sq,sq,by simp[vl]⟩
  (aH _ rfl ⟨aF 2 (kR _ _),⟨1,_,rfl,rfl,q9 rfl sq⟩,⟨0,_,rfl,rfl,.eq (aO _) (by simp[bA])⟩,trivial⟩
   ⟨aP (.il' (aO _)),aM,aM,⟨_,rfl,(.fn _ _ _ _ _ rfl rfl sq (iS.cons (.ptr 2 0 0 0 rfl) (.cons co .nil)).2)⟩,aP (.il' (aO _)),⟨_,rfl,.int (by rw[aT])⟩,aG,trivial⟩) ?_
 rintro⟨s,c⟩ ⟨h1,h2,h3,h4⟩;simp only at h1 h2 h3 h4 |-;refine Z ?_;refine aL (λhb=>?_) (λhb=>?_)
 .have hlt:s.length<b.length:=su hb
  obtain⟨u,hu⟩:∃u,a[s.length]? = some u:=⟨_,Yz om⟩
  obtain⟨v,hv⟩:∃v,b[s.length]? = some v:=⟨_,Yz om⟩
  have hul:=hla _ (Y5 hu);have hvl:=hlb _ (Y5 hv);have g2:=z8 hv;have hll:(s++a.drop s.length).length=a.length:=B'
  refine Z ?_;repeat((first|refine aC g2 ?_|refine bK ?_);refine Z ?_)
  refine aJ.useN bI [(0,0),(1,1),(2,2)] (JI _ s.length u v c a.length hll (GF hu) hul hvl h3 om) rfl (.s (.s (.cons bj (.cons co .nil)))) ci rfl ?_;rintro r' m' n' ⟨rfl,rfl,rfl⟩;rw[GO hu];have hstep:=Co (B:=4294967296) (s:=s) (x:=u) (y:=v) (b:=c) rfl h4 hul hvl h3;have hdg:=rF (B:=4294967296) (x:=u) (y:=v) (b:=c) hul hvl h3;generalize (if v+c>u then u+4294967296-(v+c) else u-(v+c))=d at hstep hdg |-;have hbo:(if v+c>u then 1 else 0)<=1:=by split<;>omega
  generalize (if v+c>u then 1 else 0)=bo at hstep hbo |-;refine⟨[(0,0),(1,1),(2,2)],_,Hv bo a.length ((s++[d])++a.drop (s++[d]).length),3,.same _ nn,ci,rfl, ?_⟩;refine Z ?_;exact .mk (s++[d],bo) [(0,0),(1,1),(2,2)] ⟨by simp;omega,f0 h2 hdg,hbo,by simp only[ZB,ZY];rw[iL hu,iL hv];exact hstep⟩
   (aH _ rfl ci
    ⟨aP (.il' (aO _)),aM,aM,⟨_,rfl,(.fn _ _ _ _ _ rfl rfl sq (iS.cons bj (.cons co .nil)).2)⟩,aP (.il' (aO _)),aG,Z',trivial⟩) B'
 .have hlt:s.length=b.length:=by simp at hb;omega
  rw[hlt,ZK,hvb] at h4;refine Z ?_;refine bJ.at bI (λp:List Nat × Nat=>p.1.length<=a.length/\(∀d∈p.1,d<4294967296)/\p.2<=1/\vl 4294967296 p.1+y=vl 4294967296 (a.take p.1.length)+4294967296 ^ p.1.length*p.2)
   (λp=>⟨[(5,.ptr 1 0 0),(6,.ptr 0 0 0),(7,.fn (.func 184) [] [.ptr 0 0 0,.ptr 1 0 0]),(10,.int .i64 p.1.length)],Hv p.2 a.length (p.1++a.drop p.1.length),3,47⟩)
   (λp=>a.length-p.1.length) (s,c) [(0,0),(1,1),(2,2)] ⟨by simp only;omega,h2,h3,by simp only;rw[hlt];exact h4⟩
   (aH _ rfl ci
    ⟨aM,aM,⟨_,rfl,(.fn _ _ _ _ _ rfl rfl sq (iS.cons bj (.cons co .nil)).2)⟩,⟨_,rfl,.int (by rw[aT,hlt])⟩,trivial⟩) ?_
  clear h1 h2 h3 h4 hlt hb s c;rintro⟨s,c⟩ ⟨h1,h2,h3,h4⟩;simp only at h1 h2 h3 h4 |-;refine Z ?_;have hsp:=uA 4294967296 a s.length h1;refine aL (λhb=>?_) (λhb=>?_)
  .rw[hb];have hlt:s.length<a.length:=su hb
   refine Z ?_;refine aL (λhc=>?_) (λhc=>?_)
   .obtain⟨u,hu⟩:∃u,a[s.length]? = some u:=⟨_,Yz om⟩
    have hul:=hla _ (Y5 hu);have hll:(s++a.drop s.length).length=a.length:=B'
    refine Rt ?_;refine aJ.useN bI [(0,0),(1,1),(2,2)] (JI _ s.length u 0 c a.length hll (GF hu) hul H' h3 om) rfl (.s (.s (.cons bj (.cons co .nil)))) ci rfl ?_;rintro r' m' n' ⟨rfl,rfl,rfl⟩;rw[GO hu];have hstep:=Co (B:=4294967296) (s:=s) (x:=u) (y:=0) (b:=c) rfl h4 hul H' h3;have hdg:=rF (B:=4294967296) (x:=u) (y:=0) (b:=c) hul H' h3;generalize (if 0+c>u then u+4294967296-(0+c) else u-(0+c))=d at hstep hdg |-;have hbo:(if 0+c>u then 1 else 0)<=1:=by split<;>omega
    generalize (if 0+c>u then 1 else 0)=bo at hstep hbo |-;refine⟨[(0,0),(1,1),(2,2)],_,Hv bo a.length ((s++[d])++a.drop (s++[d]).length),3,.same _ nn,ci,rfl, ?_⟩;refine Z ?_;exact .mk (s++[d],bo) [(0,0),(1,1),(2,2)] ⟨by simp;omega,f0 h2 hdg,hbo,by simp only[ZB,ZY];rw[iL hu];simpa using hstep⟩
     (aH _ rfl ci
      ⟨aM,aM,⟨_,rfl,(.fn _ _ _ _ _ rfl rfl sq (iS.cons bj (.cons co .nil)).2)⟩,Z',trivial⟩) B'
   .have hc0:c=0:=by simp at hc;omega
    subst hc0;have hV:vl 4294967296 (s++a.drop s.length)=x-y:=by rw[jI];omega
    refine Rt ?_;have hL:∀d∈s++a.drop s.length,d<4294967296:=λd hd=>by
     rcases ZO.1 hd with hd|hd
     .exact h2 d hd
     .exact hla d (Zn hd)
    have hll:(s++a.drop s.length).length=a.length:=B'
    have hz:eB (s++a.drop s.length)=dg 4294967296 (x-y):=by rw[jO hB _ hL,hV]
    refine aJ.pre bI [] (mem':=[]) rfl trivial (.cons (.fz' (id:=2) (ys:=bA (s++a.drop s.length)) rfl rfl (by rw[aT,hll];omega) (by rw[ZT,ZD (by rw[aT,hll];omega)]) (aO _)) .nil) ?_;refine(xL (s++a.drop s.length) (by rw[hll];omega)).go ?_ (.cons (.il' (aO _)) .nil) (.il' (aO _));rw[hz];refine Z ?_;exact aA (.il' (aO _)) C'
  .rw[hb];have hlt:s.length=a.length:=by simp at hb;omega
   have hc0:c=0:=by
    rcases ZF c with e|e
    .exact e
    .have hc1:c=1:=om;have:=qN hB s h2;rw[hlt,ZK,hva,hc1] at h4;rw[hlt] at this;omega
   subst hc0;have hV:vl 4294967296 (s++a.drop s.length)=x-y:=by rw[jI];omega
   refine Rt ?_;have hL:∀d∈s++a.drop s.length,d<4294967296:=λd hd=>by
    rcases ZO.1 hd with hd|hd
    .exact h2 d hd
    .exact hla d (Zn hd)
   have hll:(s++a.drop s.length).length=a.length:=B'
   have hz:eB (s++a.drop s.length)=dg 4294967296 (x-y):=by rw[jO hB _ hL,hV]
   refine aJ.pre bI [] (mem':=[]) rfl trivial (.cons (.fz' (id:=2) (ys:=bA (s++a.drop s.length)) rfl rfl (by rw[aT,hll];omega) (by rw[ZT,ZD (by rw[aT,hll];omega)]) (aO _)) .nil) ?_;refine(xL (s++a.drop s.length) (by rw[hll];omega)).go ?_ (.cons (.il' (aO _)) .nil) (.il' (aO _));rw[hz];refine Z ?_;exact aA (.il' (aO _)) C' 
theorem Sg(neg:Bool)(m:Nat):sg neg m=0↔m=0:=by unfold sg;split<;>omega
theorem wU(l:List Nat)(d:Nat):bX (l++[d])=bX l++[.int .i64 (d:Int)]:=by rw[PR];rfl
theorem nN(b:Bool):jR [.agg [.bool b,.nsl]]:=.cons (.agg' (.cons (zG _) (.cons .nsl .nil))) .nil
theorem Rn{m:Nat}(h:0<m):dg 10000 m=(m%10000)::dg 10000 (m/10000):=kV hT h
theorem Su(n:Int)(hn:i64 n):aU prog [] 39 [.int .i64 n] (fW n):=by
 obtain⟨hn1,hn2⟩:=hn;have hlen:(dg 10000 n.natAbs).length<=5:=fT hT om;have hno:=oV (decide (n<0)) (dg 10000 n.natAbs) n.natAbs om (eJ hT _) (fM hT _);rw[Hs] at hno;have hsg:=Hs n;obtain⟨N,hN⟩:∃N,N=n.natAbs:=cm
 have hNb:N<=9223372036854775808:=om;rw[<-hN] at hsg hno hlen;generalize hneg:decide (n<0)=neg at *;refine aD bI func39 rfl ?_;refine Z ?_;rw[hneg];refine bJ.ph 3 1 ?_;refine bJ.at bI (λp:List Nat × Nat=>p.1++dg 10000 p.2=dg 10000 N/\p.2<=N)
  (λp=>⟨[(0,.int .i64 (sg neg p.2)),(2,.ptr 0 0 0),(3,.sl 1 0 p.1.length),(4,.bool neg)],[(0,.row 40 2 [.agg [.bool false,.nsl]]),(1,.row 3 1 (bX p.1))],2,25⟩)
  (λp=>p.2) ([],N) [(0,0),(1,1)] ⟨sq,sq⟩
  (aH _ rfl ⟨aF 0 (nN _),⟨1,_,rfl,rfl,.nil⟩,trivial⟩ ⟨⟨_,rfl,.int hsg.symm⟩,aM,⟨_,rfl,.nslk 1 1 _ rfl rfl⟩,aP (zG _),trivial⟩) ?_
 rintro⟨s,m⟩ ⟨h1,h2⟩;simp only at h1 h2 |-;have hsl:s.length<=5:=by
  have:=congrArg List.length h1;rw[ZB] at this;omega
 by_cases hm:0<m
 .have hz:(sg neg m != 0)=true:=by
   have:sg neg m≠0:=λh=>by rw[Sg] at h;omega
   simpa using this
  have hrem:(sg neg m).tmod 10000=sg neg (m%10000):=by
   unfold sg;split
   .rw[Int.neg_tmod];exact congrArg _ (n6 m 10000)
   .exact n6 m 10000
  have hquo:(sg neg m).tdiv 10000=sg neg (m/10000):=by
   unfold sg;split
   .rw[Int.neg_tdiv];exact congrArg _ (kJ m 10000)
   .exact kJ m 10000
  have hstep:=Rn hm;have hsr:i64 (sg neg (m%10000)):=by unfold sg i64;split<;>omega
  have hsq:i64 (sg neg (m/10000)):=by unfold sg i64;split<;>omega
  have hw1:IntKind.i64.wrap ((sg neg m).tmod 10000)=sg neg (m%10000):=by rw[hrem,bF hsr]
  have hw2:IntKind.i64.wrap ((sg neg m).tdiv 10000)=sg neg (m/10000):=by rw[hquo,bF hsq]
  have key:∀(s':List Nat),s'=s++[m%10000]->s'++dg 10000 (m/10000)=dg 10000 N:=λs' h=>by
   rw[h,<-h1,hstep];simp
  have hget:∀(x:Int) (mm:aR),x=((m%10000:Nat):Int)->rY mm [(0,0),(3,1)] (bX s++[.int .i64 x]) (bX (s++[m%10000])):=λx mm h=>.eq (fG _) (by rw[h,wU])
  refine Z ?_;rw[hz];refine Z ?_;rw[hrem];refine aL (λhc=>?_) (λhc=>?_)
  .have hk:sg neg (m%10000)<0:=Zf hc;have hw3:IntKind.i64.wrap (0-sg neg (m%10000))=((m%10000:Nat):Int):=by
    revert hk
    unfold sg;split
    .intro _;rw[bF oq];omega
    .intro h;omega
   refine Z ?_;refine aK (b8 rfl rfl (by rw[aV]) B') ?_;refine Z ?_;exact .mk (s++[m%10000],m/10000) [(0,0),(3,1)] ⟨key _ rfl,by simp only;omega⟩
    (aH _ rfl ⟨aF 0 (nN _),⟨3,_,rfl,rfl,hget _ _ hw3⟩,trivial⟩ ⟨⟨_,rfl,.int hw2⟩,aM,⟨_,rfl,.slE rfl (by simp[aV])⟩,aP (zG _),trivial⟩) J'
  .have hk:¬sg neg (m%10000)<0:=aAa hc;have hw3:sg neg (m%10000)=((m%10000:Nat):Int):=by
    revert hk
    unfold sg;split<;>omega
   refine Z ?_;refine aK (b8 rfl rfl (by rw[aV]) B') ?_;refine Z ?_;exact .mk (s++[m%10000],m/10000) [(0,0),(3,1)] ⟨key _ rfl,by simp only;omega⟩
    (aH _ rfl ⟨aF 0 (nN _),⟨3,_,rfl,rfl,hget _ _ hw3⟩,trivial⟩ ⟨⟨_,rfl,.int hw2⟩,aM,⟨_,rfl,.slE rfl (by simp[aV])⟩,aP (zG _),trivial⟩) J'
 .have hm0:m=0:=om;subst hm0;have hz:(sg neg 0 != 0)=false:=by unfold sg;split<;>rfl
  rw[eA,aAi] at h1;rw[<-h1] at hno;have hen:=tC n;rw[eG n] at hno hen |-;refine Z ?_;rw[hz];refine Z ?_;refine aJ.pre bI [(0,0)] (mem':=[(0,.row 40 2 [.agg [.bool false,.nsl]])]) rfl ⟨aF 0 (nN _),trivial⟩
   (.cons (.same _ (zG _)) (.cons (.fz' (id:=1) (off:=0) (ys:=bX s) rfl rfl (by rw[aV];omega) (by rw[ZT,ZD (by rw[aV];omega)]) (fG _)) .nil)) ?_
  refine hno.go ?_ au hen;refine Rt ?_;exact aA hen C' 
theorem HJ{x y p c:Nat}(hx:x<4294967296)(hy:y<4294967296)(hp:p<4294967296)(hc:c<4294967296):x*y<=18446744065119617025/\x*y+p<18446744073709551616/\c+(x*y+p)<18446744073709551616/\(c+(x*y+p))/4294967296<4294967296:=by
 have h:x*y<=4294967295*4294967295:=Z7 om om;refine⟨om,om,om, ?_⟩;rw[aAx om];omega
theorem sH{l:List Nat}{i k d:Nat}(h:i≠k):(l.set i d)[k]? = l[k]? := by rw[aBg,Y3 h]
theorem Xk(x y:Nat)(hx:(dg 4294967296 x).length<=1000000)(hy:(dg 4294967296 y).length<=1000000):aU prog [] 245 [.il 1 (bA (dg 4294967296 x)),.il 1 (bA (dg 4294967296 y))] (.il 1 (bA (dg 4294967296 (x*y)))):=by
 have hB:(2:Nat)<=4294967296:=H'
 have hla:=eJ hB x;have hlb:=eJ hB y;have hva:=fM hB x;have hvb:=fM hB y;generalize dg 4294967296 x=a at *;generalize dg 4294967296 y=b at *;refine aD bI func245 rfl ?_;refine Z ?_;rw[aT,aT];have hw:IntKind.i64.wrap ((a.length:Int)+(b.length:Int))=((a.length+b.length:Nat):Int):=Y'
 rw[hw];refine aK gw ?_;refine Z ?_;refine bJ.at bI (λp:Nat × List Nat=>p.1<=a.length/\p.2.length=a.length+b.length/\(∀d∈p.2,d<4294967296)/\vl 4294967296 p.2=vl 4294967296 (a.take p.1)*y/\∀k,p.1+b.length<=k->k<a.length+b.length->p.2[k]? = some 0)
  (λp=>⟨[(1,.il 1 (bA b)),(5,.sl 0 0 (a.length+b.length)),(17,.il 1 (bA a)),(18,.int .i64 a.length),(19,.int .i64 p.1)],[(0,.row 157 1 (bA p.2))],1,67⟩)
  (λp=>a.length-p.1) (0,List.replicate (a.length+b.length) 0) [(0,0)] ⟨sq,sq,sq,by simp only;rw[AH];simp[vl],λk h1 h2=>by simp only;rw[aAr,Y7 h2]⟩
  (aH _ rfl ⟨⟨0,_,rfl,rfl,.eq (aO _) (by rw[yT,Y1])⟩,trivial⟩
   ⟨aP (.il' (aO _)),⟨_,rfl,.slE rfl (Y1 _)⟩,aP (.il' (aO _)),⟨_,rfl,.int (by rw[aT])⟩,aG,trivial⟩) ?_
 rintro⟨i,P⟩ ⟨h1,h2,h3,h4,h5⟩;simp only at h1 h2 h3 h4 h5 |-;refine Z ?_;refine aL (λhb=>?_) (λhb=>?_)
 .have hlt:i<a.length:=su hb
  obtain⟨u,hu⟩:∃u,a[i]? = some u:=⟨_,Yz hlt⟩
  have hul:=hla _ (Y5 hu);have g1:=z8 hu;refine Z ?_;refine aC g1 ?_;refine Z ?_;refine bJ.at bI (λp:Nat × List Nat × Nat=>p.1<=b.length/\p.2.1.length=a.length+b.length/\(∀d∈p.2.1,d<4294967296)/\p.2.2<4294967296 /\
    vl 4294967296 p.2.1+4294967296 ^ (i+p.1)*p.2.2=vl 4294967296 (a.take i)*y+u*(4294967296 ^ i*vl 4294967296 (b.take p.1))/\∀k,i+b.length<=k->k<a.length+b.length->p.2.1[k]? = some 0)
   (λp=>⟨[(1,.il 1 (bA b)),(5,.sl 0 0 (a.length+b.length)),(6,.int .i64 i),(7,.int .u32 u),(8,.int .u64 (p.2.2:Int)),(17,.il 1 (bA a)),(18,.int .i64 a.length),(19,.int .i64 i),(24,.il 1 (bA b)),(25,.int .i64 b.length),(26,.int .i64 p.1)],[(0,.row 157 1 (bA p.2.1))],1,67⟩)
   (λp=>b.length-p.1) (0,P,0) [(0,0)] ⟨sq,h2,h3,sq,by simp only;rw[h4];simp[vl],h5⟩
   (aH _ rfl dt
    ⟨aP (.il' (aO _)),V',aG,aG,aG,aP (.il' (aO _)),aG,aG,aP (.il' (aO _)),⟨_,rfl,.int (by rw[aT])⟩,aG,trivial⟩) ?_
  rintro⟨j,Q,c⟩ ⟨h0,k2,k3,hc,k4,k5⟩;simp only at h0 k2 k3 hc k4 k5 |-;refine Z ?_;refine aL (λhb=>?_) (λhb=>?_)
  .have hlt2:j<b.length:=su hb
   obtain⟨v,hv⟩:∃v,b[j]? = some v:=⟨_,Yz hlt2⟩
   obtain⟨p,hp⟩:∃p,Q[i+j]? = some p:=⟨_,Yz om⟩
   have hvl:=hlb _ (Y5 hv);have hpl:=k3 _ (Y5 hp);have g2:=z8 hv;have g3:=mU hp;have bi:=jE (i:=i+j) (n:=a.length+b.length) om;obtain⟨q1,q2,q3,q4⟩:=HJ hul hvl hpl hc;have e1:IntKind.u64.wrap (u:Int)=(u:Int):=iT om;have e2:IntKind.u64.wrap (v:Int)=(v:Int):=iT om;have e3:IntKind.u64.wrap ((u:Int)*(v:Int))=((u*v:Nat):Int):=by rw[<-Int.natCast_mul];exact iT om
   have e4:IntKind.i64.wrap ((i:Int)+(j:Int))=((i+j:Nat):Int):=Y'
   have e5:IntKind.u64.wrap (p:Int)=(p:Int):=iT om;have e6:IntKind.u64.wrap (((u*v:Nat):Int)+(p:Int))=((u*v+p:Nat):Int):=cf
   have e7:IntKind.u64.wrap ((c:Int)+((u*v+p:Nat):Int))=((c+(u*v+p):Nat):Int):=cf
   refine Z ?_;refine aC g2 ?_;refine Z ?_;rw[e1,e2,e3,e4];repeat((first|refine aK bi ?_|refine aC g3 ?_|refine bK ?_);refine Z ?_)
   rw[e5,e6,e7];refine Rs ?_;repeat((first|rw[e4]|refine aK bi ?_|refine aC g3 ?_);refine Rt ?_)
   have hms:=I5 (B:=4294967296) hp k4 (y:=v);have hmd:(c+(u*v+p))%4294967296<4294967296:=Zr _ H';exact .mk (j+1,Q.set (i+j) ((c+(u*v+p))%4294967296),(c+(u*v+p))/4294967296) [(0,0)]
    ⟨by simp only;omega,by simp only[aAR];exact k2,Gv k3 hmd,q4,by
      simp only;rw[iL hv,Nat.mul_add (4294967296 ^ i),<-Nat.mul_assoc (4294967296 ^ i) (4294967296 ^ j),<-Nat.pow_add];exact hms,λk z1 z2=>by simp only;rw[sH om];exact k5 k z1 z2⟩
    (aH _ rfl ⟨⟨0,_,rfl,rfl,.eq (aO _) (by rw[VA,Y1,ZP,iU])⟩,trivial⟩
     ⟨aP (.il' (aO _)),V',aG,aG,⟨_,rfl,.int B8⟩,aP (.il' (aO _)),aG,aG,aP (.il' (aO _)),aG,⟨_,rfl,.w64 sq U'⟩,trivial⟩) J'
  .have hj:j=b.length:=by simp at hb;omega
   subst hj;rw[ZK,hvb] at k4;have e4:IntKind.i64.wrap ((i:Int)+(b.length:Int))=((i+b.length:Nat):Int):=Y'
   have hp:=k5 (i+b.length) om om;have g3:=mU hp;have bi:=jE (i:=i+b.length) (n:=a.length+b.length) om;have hvs:=HE 4294967296 Q (i+b.length) c 0 hp;refine Z ?_;rw[aT,e4];refine Rs ?_;repeat((first|refine aK bi ?_|refine aC g3 ?_);refine Rt ?_)
   exact .mk (i+1,Q.set (i+b.length) c) [(0,0)]
    ⟨by simp only;omega,by simp only[aAR];exact k2,Gv k3 hc,by
      simp only;rw[iL hu,Nat.add_mul,Nat.mul_assoc (4294967296 ^ i),aAF (4294967296 ^ i),<-k4];omega,λk z1 z2=>by simp only;rw[sH om];exact k5 k om z2⟩
    (aH _ rfl ⟨⟨0,_,rfl,rfl,.eq (aO _) (by rw[JP hc,Y1,ZP,iU])⟩,trivial⟩
     ⟨aP (.il' (aO _)),V',aP (.il' (aO _)),aG,⟨_,rfl,.w64 sq U'⟩,trivial⟩) J'
 .have hi:i=a.length:=by simp at hb;omega
  subst hi;rw[ZK,hva] at h4;have hz:eB P=dg 4294967296 (x*y):=by rw[jO hB _ h3,h4]
  refine Z ?_;refine aJ.pre bI [] (mem':=[]) rfl trivial (.cons (.fz' (id:=0) (ys:=bA P) rfl rfl (by rw[aT,h2];omega) (by rw[ZT,ZD (by rw[aT,h2];omega)]) (aO _)) .nil) ?_;refine(xL P (by rw[h2];omega)).go ?_ (.cons (.il' (aO _)) .nil) (.il' (aO _));rw[hz];refine Z ?_;exact aA (.il' (aO _)) C' 
theorem j8{B:Nat}(hB:2<=B):∀l:List Nat,(∀d∈l,d<B)->l=dY (dg B (vl B l)) l.length
 | [],_=>by simp[vl,eA,dY]
 | d::r,h=>by
  have ih:=j8 hB r λx hx=>h x (by simp[hx])
  have hd:=h d sq;rcases ZF (d+B*vl B r) with e|e
  .have hd0:d=0:=om;have hv0:vl B r=0:=by
    rcases ZF (vl B r) with h1|h1
    .exact h1
    .have:=aAK (show 0<B by omega) h1;omega
   rw[hv0,eA] at ih;rw[vl,hv0,hd0,aAy,ZP,eA]
   conv=>lhs;rw[ih]
   simp[dY,Zz]
  .rw[vl,LI hB hd e]
   conv=>lhs;rw[ih]
   simp[dY]
theorem zE{z n:Nat}:eB (dY (dg 4294967296 z) n)=dg 4294967296 z:=by
 have hB:(2:Nat)<=4294967296:=H'
 have hall:∀d∈dY (dg 4294967296 z) n,d<4294967296:=λd hd=>by
  rcases ZO.1 hd with h|h
  .exact eJ hB z d h
  .rw[aAw h];decide
 rw[jO hB _ hall,Ce,fM hB]
def lV(m:Nat)(R:List Nat):List Nat:=List.replicate m 0++R
theorem IQ{i:Nat}{R:List Nat}:(lV (i+1) R)[i]? = some 0:=by
 unfold lV;rw[ZR sq,aAr,Y7 om]
theorem C5{i d:Nat}{R:List Nat}:(lV (i+1) R).set i d=lV i (d::R):=by
 unfold lV;rw[List.replicate_succ',List.append_assoc,Z2 _ _ sq];simp
theorem IP(x d:Nat)(hx:(dg 4294967296 x).length<=1000000)(hd0:0<d)(hd:d<4294967296):aU prog [] 85 [.il 1 (bA (dg 4294967296 x)),.int .u32 d] (.tup [.il 1 (bA (dY (dg 4294967296 (x/d)) (dg 4294967296 x).length)),.int .u32 ((x%d:Nat):Int)]):=by
 have hB:(2:Nat)<=4294967296:=H'
 have hla:=eJ hB x;have hva:=fM hB x;generalize dg 4294967296 x=a at *;refine aD bI func85 rfl ?_;refine Z ?_;rw[aT];refine aK gw ?_;refine Z ?_;refine bJ.at bI (λp:Nat × List Nat × Nat=>p.1<=a.length/\p.2.1.length=a.length-p.1/\(∀d∈p.2.1,d<4294967296)/\p.2.2<d/\vl 4294967296 (a.drop p.1)=vl 4294967296 p.2.1*d+p.2.2)
  (λp=>⟨[(0,.il 1 (bA a)),(1,.int .u32 d),(6,.sl 0 0 a.length),(7,.int .u64 (p.2.2:Int)),(8,.int .i64 ((p.1:Int)-1))],[(0,.row 157 1 (bA (lV p.1 p.2.1)))],1,42⟩)
  (λp=>p.1) (a.length,[],0) [(0,0)] ⟨sq,sq,sq,hd0,by simp[vl]⟩
  (aH _ rfl ⟨⟨0,_,rfl,rfl,.eq (aO _) (by simp[lV,yT])⟩,trivial⟩
   ⟨aP (.il' (aO _)),aG,⟨_,rfl,.slE rfl (Y1 _)⟩,aG,⟨_,rfl,.w64 (by rw[aT]) U'⟩,trivial⟩) ?_
 rintro⟨m,R,r⟩ ⟨h1,h2,h3,h4,h5⟩;simp only at h1 h2 h3 h4 h5 |-;refine Z ?_;refine aL (λhb=>?_) (λhb=>?_)
 .have hm1:0<m:=by simp at hb;omega
  obtain⟨i,rfl⟩:∃i,m=i+1:=⟨m-1,om⟩
  rw[show (((i+1:Nat):Int)-1)=(i:Int) by omega];obtain⟨u,hu⟩:∃u,a[i]? = some u:=⟨_,Yz om⟩
  have hul:=hla _ (Y5 hu);have g1:=z8 hu;have g3:(bA (lV (i+1) R))[0+((i:Nat):Int).toNat]? = some (.int .u32 0):=mU IQ;have bi:=jE (i:=i) (n:=a.length) om;have e1:IntKind.u64.wrap (u:Int)=(u:Int):=iT om;have e2:IntKind.u64.wrap (d:Int)=(d:Int):=iT om;have e3:bits BinOp.or IntKind.u64 (IntKind.u64.wrap ((r:Int)*2 ^ min (Int.toNat 32) IntKind.u64.bits)) (u:Int)=((r*4294967296+u:Nat):Int):=Ke om hul;obtain⟨s1,s2,s3⟩:=OP (B:=4294967296) H' (x:=u) hd0 h5 h4;have s3:=s3 hul;refine Z ?_;repeat((first|refine aC g1 ?_|refine bK ?_);refine Z ?_)
  have hnd:(!decide ((d:Int)=0))=true:=B'
  have e4:IntKind.u64.wrap (((r*4294967296+u:Nat):Int).tdiv (d:Int))=(((r*4294967296+u)/d:Nat):Int):=by rw[kJ];exact iT om
  have e5:IntKind.u64.wrap (((r*4294967296+u:Nat):Int).tmod (d:Int))=(((r*4294967296+u)%d:Nat):Int):=by rw[n6];exact iT om
  rw[e1,e2,e3,e4];refine aK hnd ?_;refine Rt ?_;repeat((first|refine aK bi ?_|refine aC g3 ?_);refine Rt ?_)
  try rw[e2]
  try rw[e5]
  refine aK hnd ?_;refine Z ?_;exact .mk (i,(r*4294967296+u)/d::R,(r*4294967296+u)%d) [(0,0)]
   ⟨by simp only;omega,by simp only[ZZ];omega,λz hz=>by
     rcases ZC.1 hz with rfl|hz
     .exact s3
     .exact h3 z hz,s2,by simp only[vl];rw[dG hu];exact s1⟩
   (aH _ rfl ⟨⟨0,_,rfl,rfl,.eq (aO _) (by rw[JP s3,Y1,ZP,iU,C5])⟩,trivial⟩
    ⟨aP (.il' (aO _)),aG,V',aG,ej,trivial⟩) J'
 .have hm0:m=0:=by simp at hb;omega
  subst hm0;rw[ZT,hva] at h5;obtain⟨q1,q2⟩:=vM (U:=x) (v:=d) (d:=vl 4294967296 R) (by rw[Nat.add_mul];omega) om;have hR:lV 0 R=dY (dg 4294967296 (x/d)) a.length:=by
   have:=j8 hB R h3;rw[h2,Nat.sub_zero,<-q1] at this;unfold lV;rw[List.replicate_zero,Zp];exact this
  have hr:x%d=r:=om;have e6:IntKind.u32.wrap (r:Int)=(r:Int):=JP om;refine Z ?_;rw[hR,e6,hr];have hl:(dY (dg 4294967296 (x/d)) a.length).length=a.length:=by rw[<-hR];simp[lV];omega
  exact cN (r':=.tup [.il 1 (bA (dY (dg 4294967296 (x/d)) a.length)),.int .u32 (r:Int)]) (.tup' (.cons (.fz' (id:=0) rfl rfl (by rw[aT,hl];omega) (by rw[ZT];exact ZD (by rw[aT,hl];omega)) (aO _)) ax)) C' 
theorem XP{x s:Nat}(hs:s<=32):IntKind.u32.wrap ((x:Int)*2 ^ (min ((s:Nat):Int).toNat IntKind.u32.bits))=(((x*2 ^ s)%4294967296:Nat):Int):=by
 have e:min ((s:Nat):Int).toNat IntKind.u32.bits=s:=by rw[Y1];exact Z5 hs
 rw[e,show (x:Int)*2 ^ s=((x*2 ^ s:Nat):Int) by rw[Int.natCast_mul,Int.natCast_pow];rfl,VA]
theorem Ro{x s:Nat}(hs:s<=32):((x:Int).fdiv (2 ^ (min ((s:Nat):Int).toNat IntKind.u32.bits)))=((x/2 ^ s:Nat):Int):=by
 have e:min ((s:Nat):Int).toNat IntKind.u32.bits=s:=by rw[Y1];exact Z5 hs
 rw[e,show ((2:Int) ^ s)=((2 ^ s:Nat):Int) by rw[Int.natCast_pow];rfl,Jb]
theorem TV{s:Nat}(hs:s<=32):IntKind.i64.wrap (32-(s:Int))=((32-s:Nat):Int):=Y'
theorem Oz{A R:List Nat}{i m u:Nat}(h:A[i]? = some u)(hi:i<m)(hm:m<=A.length):(A.take m++R)[i]? = some u:=by
 rw[ZR cx,Zb,Y7 hi];exact h
theorem Um{A R:List Nat}{i d:Nat}(h:i<A.length):(A.take (i+1)++R).set i d=A.take i++(d::R):=by
 obtain⟨u,hu⟩:∃u,A[i]? = some u:=⟨_,Yz h⟩
 have hl:(A.take i).length=i:=cx
 rw[rM hu,List.append_assoc,Z2 _ _ om,hl,aAo];rfl
theorem SX{A R:List Nat}{i d:Nat}(h:i<A.length):(A.take i++(d::R))[i]? = some d:=by
 have hl:(A.take i).length=i:=cx
 rw[ZS om,hl,aAo];rfl
theorem Sf{A R:List Nat}{i d e:Nat}(h:i<A.length):(A.take i++(d::R)).set i e=A.take i++(e::R):=by
 have hl:(A.take i).length=i:=cx
 rw[Z2 _ _ om,hl,aAo];rfl
def oL(A:List Nat)(m q:Nat):Nat:=if m=0 then 0 else A.getD (m-1) 0/q
theorem IS(x s:Nat)(hs:s<32)(hx:(dg 4294967296 x).length<=1000000):aJ prog [] 179 [.il 1 (bA (dg 4294967296 x)),.int .i64 s] [] 0
  λr m n=>r = .sl 0 0 ((dg 4294967296 x).length+1)/\m=[(0,.row 157 1 (bA (dY (dg 4294967296 (x*2 ^ s)) ((dg 4294967296 x).length+1))))]/\n=1:=by
 have hB:(2:Nat)<=4294967296:=H'
 have hla:=eJ hB x;have hva:=fM hB x;generalize dg 4294967296 x=a at *;obtain⟨A,hA⟩:∃A,A=a++[0]:=cm
 have hAl:A.length=a.length+1:=by rw[hA];simp
 have hAd:∀d∈A,d<4294967296:=by rw[hA];exact f0 hla H'
 have hAv:vl 4294967296 A=x:=by rw[hA,s9,hva];simp
 have hA0:A.getD a.length 0=0:=by rw[hA,Y0,ZS (ZA _)];simp
 have hpq:2 ^ s*2 ^ (32-s)=4294967296:=BJ om;have hp:0<2 ^ s:=aAq H';have hq:0<2 ^ (32-s):=aAq H';refine aD bI func179 rfl ?_;refine Z ?_;rw[aT];have hw:IntKind.i64.wrap ((a.length:Int)+1)=((a.length+1:Nat):Int):=Y'
 rw[hw];refine aK gw ?_;refine Z ?_;refine aK (Qa rfl rfl (by rw[aT,Y1];omega) (by rw[aAS];omega)) ?_;refine Z ?_;refine bJ.at bI (λp:Nat × List Nat=>p.1<=a.length+1/\p.2.length=a.length+1-p.1/\(∀d∈p.2,d<4294967296)/\vl 4294967296 p.2=vl 4294967296 (A.drop p.1)*2 ^ s+oL A p.1 (2 ^ (32-s)))
  (λp=>⟨[(1,.int .i64 s),(5,.sl 0 0 (a.length+1)),(6,.int .i64 ((p.1:Int)-1))],[(0,.row 157 1 (bA (A.take p.1++p.2)))],1,48⟩)
  (λp=>p.1) (a.length+1,[]) [(0,0)] ⟨sq,sq,sq,by simp only[oL];rw[Y3 om,aAV,hA0,Zm om];simp[vl]⟩
  (aH _ rfl ⟨⟨0,_,rfl,rfl,.eq (aO _) (by
    rw[aAi,ZD om,hA,Ht,aT,Y1,List.drop_replicate,show a.length+1-a.length=1 by omega];rfl)⟩,trivial⟩
   ⟨aG,⟨_,rfl,.slE rfl (Y1 _)⟩,⟨_,rfl,.int (by rw[aT];simp only;omega)⟩,trivial⟩) ?_
 rintro⟨m,R⟩ ⟨h1,h2,h3,h4⟩;simp only at h1 h2 h3 h4 |-;refine Z ?_;refine aL (λhb=>?_) (λhb=>?_)
 .have hm1:0<m:=by simp at hb;omega
  obtain⟨i,rfl⟩:∃i,m=i+1:=⟨m-1,om⟩
  rw[show (((i+1:Nat):Int)-1)=(i:Int) by omega];obtain⟨u,hu⟩:∃u,A[i]? = some u:=⟨_,Yz om⟩
  have hul:=hAd _ (Y5 hu);have g1:=mU (Oz (R:=R) hu (aAv i) om);have bi:=jE (i:=i) (n:=a.length+1) om;have e1:=XP (x:=u) (s:=s) om;refine Rt ?_;repeat((first|refine aK bi ?_|refine aC g1 ?_);refine Rt ?_)
  have hrow:(bA (A.take (i+1)++R)).set (0+((i:Nat):Int).toNat) (.int .u32 (IntKind.u32.wrap ((u:Int)*2 ^ min ((s:Nat):Int).toNat IntKind.u32.bits)))=bA (A.take i++((u*2 ^ s)%4294967296::R)):=by
   rw[e1,Y1,ZP,iU,Um om]
  rw[hrow];have hbd:oL A (i+1) (2 ^ (32-s))=u/2 ^ (32-s):=by
   unfold oL;rw[Y3 om,aAV,Y0,hu];rfl
  rw[hbd] at h4;have hup:∀y,(u*2 ^ s)%4294967296+y+4294967296*vl 4294967296 R=(u+4294967296*vl 4294967296 (A.drop (i+1)))*2 ^ s+y:=λy=>by rw[h4];exact Q6 hpq hp
  refine aL (λhc=>?_) (λhc=>?_)
  .rw[hc];have hi0:0<i:=by simp at hc;omega
   refine Z ?_;refine aL (λhc2=>?_) (λhc2=>?_)
   .have hs0:0<s:=by simp at hc2;omega
    obtain⟨w,hw1⟩:∃w,A[i-1]? = some w:=⟨_,Yz om⟩
    have hwl:=hAd _ (Y5 hw1);have e2:IntKind.i64.wrap ((i:Int)-1)=((i-1:Nat):Int):=Y'
    have e3:=TV (s:=s) om;have e4:=Ro (x:=w) (s:=32-s) om;obtain⟨d1,d2,d3⟩:=IL (x:=u) (y:=w) hpq hp hq hwl;have hmd:(u*2 ^ s)%4294967296<4294967296:=Zr _ H';have e5:bits .or .u32 (((u*2 ^ s)%4294967296:Nat):Int) ((w/2 ^ (32-s):Nat):Int)=(((u*2 ^ s)%4294967296+w/2 ^ (32-s):Nat):Int):=by
     rw[Ez hmd om,Jy d2 d3]
    have g2:(bA (A.take i++((u*2 ^ s)%4294967296::R)))[0+((i:Nat):Int).toNat]? = some (.int .u32 (((u*2 ^ s)%4294967296:Nat):Int)):=mU (SX om);have g3:(bA (A.take i++((u*2 ^ s)%4294967296::R)))[0+(((i-1:Nat)):Int).toNat]? = some (.int .u32 (w:Int)):=mU (Oz hw1 om om);have bi2:=jE (i:=i-1) (n:=a.length+1) om;have hdl:=d1;have hV:vl 4294967296 (((u*2 ^ s)%4294967296+w/2 ^ (32-s))::R)=vl 4294967296 (A.drop i)*2 ^ s+oL A i (2 ^ (32-s)):=by
     rw[vl,hup,dG hu];unfold oL;rw[Y3 om,Y0,hw1];rfl
    refine Z ?_;try rw[e2]
    refine Rs ?_;repeat((first|refine aK bi ?_|refine aC g2 ?_|refine aK bi2 ?_|refine aC g3 ?_|rw[e2]);refine Rt ?_)
    rw[e3];refine Rt ?_;repeat((first|refine aK bi ?_|refine aC g2 ?_);refine Rt ?_)
    exact .mk (i,((u*2 ^ s)%4294967296+w/2 ^ (32-s))::R) [(0,0)]
     ⟨by simp only;omega,by simp only[ZZ];omega,λz hz=>by
       rcases ZC.1 hz with rfl|hz
       .exact hdl
       .exact h3 z hz,hV⟩
     (aH _ rfl ⟨⟨0,_,rfl,rfl,.eq (aO _) (by rw[e4,e5,Y1,ZP,iU,Sf om])⟩,trivial⟩
      ⟨aG,V',ej,trivial⟩) J'
   .have hs0:s=0:=by simp at hc2;omega
    subst hs0;have hdl:(u*2 ^ 0)%4294967296<4294967296:=Zr _ H';have hV:vl 4294967296 ((u*2 ^ 0)%4294967296::R)=vl 4294967296 (A.drop i)*2 ^ 0+oL A i (2 ^ (32-0)):=by
     have hz:oL A i (2 ^ (32-0))=0:=by
      unfold oL;split
      .rfl
      .rw[Y0];cases hw1:A[i-1]? with
       | none=>simp
       | some w=>
        have:=hAd _ (Y5 hw1);simp only[aAD];exact aAh (su this)
     have:=hup 0;rw[Zs,Zs] at this;rw[vl,this,dG hu,hz];exact(Zs _).symm
    refine Z ?_;exact .mk (i,(u*2 ^ 0)%4294967296::R) [(0,0)]
     ⟨by simp only;omega,by simp only[ZZ];omega,λz hz=>by
       rcases ZC.1 hz with rfl|hz
       .exact hdl
       .exact h3 z hz,hV⟩
     (aH _ rfl dt
      ⟨aG,V',ej,trivial⟩) J'
  .rw[hc];have hi0:i=0:=by simp at hc;omega
   subst hi0;have hdl:(u*2 ^ s)%4294967296<4294967296:=Zr _ H';have hV:vl 4294967296 ((u*2 ^ s)%4294967296::R)=vl 4294967296 (A.drop 0)*2 ^ s+oL A 0 (2 ^ (32-s)):=by
    have:=hup 0;rw[Zs,Zs] at this;rw[vl,this,dG hu];simp[oL]
   refine Z ?_;exact .mk (0,(u*2 ^ s)%4294967296::R) [(0,0)]
    ⟨by simp only;omega,by simp only[ZZ];omega,λz hz=>by
      rcases ZC.1 hz with rfl|hz
      .exact hdl
      .exact h3 z hz,hV⟩
    (aH _ rfl dt
     ⟨aG,V',ej,trivial⟩) J'
 .have hm0:m=0:=by simp at hb;omega
  subst hm0;have h4:vl 4294967296 R=x*2 ^ s:=by rw[h4,ZT,hAv];simp[oL]
  have hR:R=dY (dg 4294967296 (x*2 ^ s)) (a.length+1):=by
   have:=j8 hB R h3;rw[h2,Nat.sub_zero,h4] at this;exact this
  refine Z ?_;exact bL (n':=1) (m':=[(0,.row 157 1 (bA (dY (dg 4294967296 (x*2 ^ s)) (a.length+1))))]) [(0,0)] rfl ⟨⟨0,_,rfl,rfl,.eq (aO _) (by rw[<-hR];simp)⟩,trivial⟩ (.slE rfl rfl) C' 
theorem rA{L:List Nat}{n i u:Nat}(h:L[i]? = some u)(hi:i<n):(L.take n)[i]? = some u:=by rw[Zb,Y7 hi];exact h
theorem PS{S L:List Nat}{i u:Nat}(h:L[i]? = some u)(hi:S.length<=i):(S++L.drop S.length)[i]? = some u:=by
 rw[ZS hi,Zd,show S.length+(i-S.length)=i by omega];exact h
theorem Pw{S T:List Nat}{d e:Nat}:((S++[d])++T).set S.length e=(S++[e])++T:=by
 rw[List.append_assoc,Z2 _ _ (ZA _),aAo];simp
theorem OO{S T:List Nat}{d:Nat}:((S++[d])++T)[S.length]? = some d:=by
 rw[List.append_assoc,ZS (ZA _),aAo];rfl
theorem Vm{L:List Nat}{i u:Nat}(h:L[i]? = some u)(hu:u<4294967296):vl 4294967296 (L.drop i)%4294967296=u:=by
 rw[dG h,aBZ,Zt hu]
theorem QU(L:List Nat)(n s:Nat)(hs:s<32)(hn:n<=L.length)(hl:L.length<=1000001)(hL:∀d∈L,d<4294967296):aJ prog [] 182 [.sl 0 0 n,.int .i64 s] [(0,.row 157 1 (bA L))] 1
  λr m k=>r = .sl 0 0 n/\m=[(0,.row 157 1 (bA (dY (dg 4294967296 (vl 4294967296 (L.take n)/2 ^ s)) n++L.drop n)))]/\k=1:=by
 have hB:(2:Nat)<=4294967296:=H'
 have hpq:2 ^ s*2 ^ (32-s)=4294967296:=BJ om;have hqp:2 ^ (32-s)*2 ^ s=4294967296:=by rw[ZV];exact hpq
 have hp:0<2 ^ s:=aAq H';have hq:0<2 ^ (32-s):=aAq H';have hAl:(L.take n).length=n:=cx
 refine aD bI func182 rfl ?_;refine Z ?_;refine bJ.at bI (λS:List Nat=>S.length<=n/\(∀d∈S,d<4294967296)/\vl 4294967296 S+4294967296 ^ S.length*(vl 4294967296 ((L.take n).drop S.length)/2 ^ s)=vl 4294967296 (L.take n)/2 ^ s)
  (λS=>⟨[(0,.sl 0 0 n),(1,.int .i64 s),(7,.int .i64 n),(8,.int .i64 S.length)],[(0,.row 157 1 (bA (S++L.drop S.length)))],1,43⟩)
  (λS=>n-S.length) [] [(0,0)] ⟨sq,sq,by simp[vl]⟩
  (aH _ rfl ⟨⟨0,_,rfl,rfl,.eq (aO _) sq⟩,trivial⟩
   ⟨V',aG,aG,aG,trivial⟩) ?_
 rintro S ⟨h1,h2,h3⟩;refine Z ?_;refine aL (λhb=>?_) (λhb=>?_)
 .have hlt:S.length<n:=su hb
  obtain⟨u,hu⟩:∃u,L[S.length]? = some u:=⟨_,Yz om⟩
  have hul:=hL _ (Y5 hu);have g1:=mU (GF (s:=S) hu);have bi:=jE (i:=S.length) (n:=n) hlt;have e1:=Ro (x:=u) (s:=s) om;have hu2:=rA hu hlt;have e2:IntKind.i64.wrap ((S.length:Int)+1)=((S.length+1:Nat):Int):=Y'
  have hrow:(bA (S++L.drop S.length)).set (0+((S.length:Nat):Int).toNat) (.int .u32 ((u:Int).fdiv (2 ^ min ((s:Nat):Int).toNat IntKind.u32.bits)))=bA ((S++[u/2 ^ s])++L.drop (S++[u/2 ^ s]).length):=by
   rw[e1,Y1,ZP,iU,GO hu]
  have hdrop:∀Y y,vl 4294967296 ((L.take n).drop (S.length+1))=Y->Y%4294967296=y->vl 4294967296 ((L.take n).drop S.length)/2 ^ s=(u/2 ^ s+(y*2 ^ (32-s))%4294967296)+4294967296*(Y/2 ^ s):=λY y hY hy=>by
   rw[dG hu2,hY];exact Nv hpq hp hy
  have hnext:∀Y y,vl 4294967296 ((L.take n).drop (S.length+1))=Y->Y%4294967296=y->vl 4294967296 (S++[u/2 ^ s+(y*2 ^ (32-s))%4294967296])+4294967296 ^ (S.length+1)*(Y/2 ^ s)=vl 4294967296 (L.take n)/2 ^ s:=λY y hY hy=>by
   rw[<-h3,hdrop Y y hY hy];generalize u/2 ^ s+(y*2 ^ (32-s))%4294967296=e;rw[s9,Nat.pow_succ,Nat.mul_add (4294967296 ^ S.length),<-Nat.mul_assoc (4294967296 ^ S.length) 4294967296,Nat.add_assoc]
  have hle:(S++[u/2 ^ s]).length=S.length+1:=sq
  refine Rt ?_;repeat((first|refine aK bi ?_|refine aC g1 ?_);refine Rt ?_)
  rw[hrow,e2];refine aL (λhc=>?_) (λhc=>?_)
  .rw[hc];have hi1:S.length+1<n:=by simp at hc;omega
   obtain⟨w,hw⟩:∃w,L[S.length+1]? = some w:=⟨_,Yz om⟩
   have hwl:=hL _ (Y5 hw);have hY:=Vm (rA hw hi1) hwl;refine Z ?_;refine aL (λhc2=>?_) (λhc2=>?_)
   .have hs0:0<s:=by simp at hc2;omega
    have e3:=TV (s:=s) om;have e4:=XP (x:=w) (s:=32-s) om;obtain⟨d1,d2,d3⟩:=IL (x:=w) (y:=u) hqp hq hp hul;have hz:=Zr (w*2 ^ (32-s)) (show 0<4294967296 by decide);have hu3:u/2 ^ s<4294967296:=aAc (aAu _ _) hul;have e5:bits .or .u32 ((u/2 ^ s:Nat):Int) (((w*2 ^ (32-s))%4294967296:Nat):Int)=((u/2 ^ s+(w*2 ^ (32-s))%4294967296:Nat):Int):=by
     rw[Ez hu3 hz,Nat.or_comm,Jy d2 d3,aBv]
    have hdl:u/2 ^ s+(w*2 ^ (32-s))%4294967296<4294967296:=om;have hV:=hnext _ w rfl hY;have g2:(bA ((S++[u/2 ^ s])++L.drop (S++[u/2 ^ s]).length))[0+((S.length:Nat):Int).toNat]? = some (.int .u32 ((u/2 ^ s:Nat):Int)):=mU OO;have g3:(bA ((S++[u/2 ^ s])++L.drop (S++[u/2 ^ s]).length))[0+((S.length+1:Nat):Int).toNat]? = some (.int .u32 (w:Int)):=mU (PS hw (by rw[hle];omega));have bi2:=jE (i:=S.length+1) (n:=n) hi1;refine Z ?_;repeat((first|rw[e2]|refine aK bi ?_|refine aC g2 ?_|refine aK bi2 ?_|refine aC g3 ?_|refine bK ?_);refine Z ?_)
    rw[e3];refine Rt ?_;repeat((first|rw[e2]|refine aK bi ?_|refine aC g2 ?_);refine Rt ?_)
    exact .mk (S++[u/2 ^ s+(w*2 ^ (32-s))%4294967296]) [(0,0)] ⟨by simp;omega,f0 h2 hdl,by simp only[ZB,ZY];exact hV⟩
     (aH _ rfl ⟨⟨0,_,rfl,rfl,.eq (aO _) (by rw[e4,e5,Y1,ZP,iU,Pw,ZB,ZB];rfl)⟩,trivial⟩
      ⟨V',aG,aG,⟨_,rfl,.int sq⟩,trivial⟩) B'
   .have hs0:s=0:=by simp at hc2;omega
    subst hs0;have hu3:u/2 ^ 0<4294967296:=aAc (aAu _ _) hul;have hdl:=hu3;have hz:(w*2 ^ (32-0))%4294967296=0:=by rw[show (2:Nat) ^ (32-0)=4294967296 by decide];exact Nat.mul_mod_left _ _
    have hV:=hnext _ w rfl hY;rw[hz,Zs] at hV;refine Z ?_;exact .mk (S++[u/2 ^ 0]) [(0,0)] ⟨by simp;omega,f0 h2 hdl,by simp only[ZB,ZY];exact hV⟩
     (aH _ rfl dt
      ⟨V',aG,aG,Z',trivial⟩) B'
  .rw[hc];have hi1:S.length+1=n:=by simp at hc;omega
   have hu3:u/2 ^ s<4294967296:=aAc (aAu _ _) hul;have hdl:=hu3;have hY:vl 4294967296 ((L.take n).drop (S.length+1))=0:=by rw[Zm om];rfl
   have hV:=hnext 0 0 hY rfl;rw[aBS,Nat.zero_mod,Zs,<-hY] at hV;refine Z ?_;exact .mk (S++[u/2 ^ s]) [(0,0)] ⟨by simp;omega,f0 h2 hdl,by simp only[ZB,ZY];exact hV⟩
    (aH _ rfl dt
     ⟨V',aG,aG,Z',trivial⟩) B'
 .have hi:S.length=n:=by simp at hb;omega
  rw[hi,Zm om] at h3;have h3:vl 4294967296 S=vl 4294967296 (L.take n)/2 ^ s:=by rw[<-h3];simp[vl]
  have hR:S=dY (dg 4294967296 (vl 4294967296 (L.take n)/2 ^ s)) n:=by
   have:=j8 hB S h2;rw[h3,hi] at this;exact this
  refine Z ?_;exact bL (n':=1) (m':=[(0,.row 157 1 (bA (dY (dg 4294967296 (vl 4294967296 (L.take n)/2 ^ s)) n++L.drop n)))]) [(0,0)] rfl ⟨⟨0,_,rfl,rfl,.eq (aO _) (by rw[<-hR,hi])⟩,trivial⟩ (.slE rfl rfl) C' 
theorem Ah{x k:Nat}(h:0<x/2 ^ k):Nat.log2 x=Nat.log2 (x/2 ^ k)+k:=by
 have hx:x≠0:=λe=>by rw[e] at h;simp at h
 have hy:x/2 ^ k≠0:=om;obtain⟨h1,h2⟩:=(aCb hy).1 rfl;generalize Nat.log2 (x/2 ^ k)=m at *;rw[aCb hx];have hp:0<2 ^ k:=aAq H';constructor
 .rw[Nat.pow_add];exact Zk (ZI _ h1) (aBx x (2 ^ k))
 .rw[show m+k+1=(m+1)+k by omega,Nat.pow_add];exact(aAx hp).1 h2
theorem GX{s:List UInt8}(h:(List.range 256).all (λy=>s[y]? == some (UInt8.ofNat (if y=0 then 0 else Nat.log2 y+1)))=true){y:Nat}(h0:0<y)(hy:y<256):s[((y:Nat):Int).toNat]? = some (UInt8.ofNat (Nat.log2 y+1)):=by
 have:=Z8.1 h y (aBi.2 hy);rw[Y3 om] at this;rw[Y1];exact eq_of_beq this
theorem Vg(x:Nat)(h0:0<x)(hx:x<4294967296):aU prog [] 229 [.int .u32 x] (.int .i64 ((Nat.log2 x+1:Nat):Int)):=by
 have e16:∀y:Nat,((y:Int).fdiv (2 ^ min (Int.toNat 16) IntKind.u32.bits))=((y/65536:Nat):Int):=λy=>Ro (s:=16) (by decide)
 have e8:∀y:Nat,((y:Int).fdiv (2 ^ min (Int.toNat 8) IntKind.u32.bits))=((y/256:Nat):Int):=λy=>Ro (s:=8) (by decide)
 have eu:∀y:Nat,y<256->IntKind.u8.wrap (y:Int)=(y:Int):=λy hy=>by rw[Hh];omega
 have el:∀y:Nat,0<y->y<256->Nat.log2 y<8:=λy h1 h2=>(Nat.log2_lt om).2 om
 have et:∀y:Nat,0<y->y<256->((UInt8.ofNat (Nat.log2 y+1)).toNat:Int)=((Nat.log2 y+1:Nat):Int):=λy h1 h2=>by
  have:=el y h1 h2;rw[UInt8.toNat_ofNat'];omega
 have ei:∀z:Nat,z<256->IntKind.i64.wrap (z:Int)=(z:Int):=λz hz=>bF oq
 refine aD bI func229 rfl ?_;refine Z ?_;refine aL (λhb=>?_) (λhb=>?_)
 .have hb:65536<=x:=by simp at hb;omega
  refine Z ?_;rw[e16];refine aL (λhc=>?_) (λhc=>?_)
  .have hc:256<=x/65536:=by simp at hc;omega
   have hy0:0<x/65536/256:=om;have hy:x/65536/256<256:=om;have h1:Nat.log2 x=Nat.log2 (x/65536)+16:=Ah (k:=16) om;have h2:Nat.log2 (x/65536)=Nat.log2 (x/65536/256)+8:=Ah (k:=8) om;have h3:=el _ hy0 hy;refine Z ?_;rw[e8];rw[eu _ hy];refine Z ?_;refine aC (GX (by decide +kernel) hy0 hy) ?_;refine Z ?_;exact cN (.int (by rw[et _ hy0 hy,ei _ om,show IntKind.i64.wrap (16+8)=24 by decide,bF oq];omega)) ⟨rfl,rfl,rfl⟩
  .have hc:x/65536<256:=by simp at hc;omega
   have hy0:0<x/65536:=om;have hy:x/65536<256:=om;have h1:Nat.log2 x=Nat.log2 (x/65536)+16:=Ah (k:=16) om;have h3:=el _ hy0 hy;refine Z ?_;rw[eu _ hy];refine Z ?_;refine aC (GX (by decide +kernel) hy0 hy) ?_;refine Z ?_;exact cN (.int (by rw[et _ hy0 hy,ei _ om,bF oq];omega)) ⟨rfl,rfl,rfl⟩
 .have hb:x<65536:=by simp at hb;omega
  refine Z ?_;refine aL (λhc=>?_) (λhc=>?_)
  .have hc:256<=x:=by simp at hc;omega
   have hy0:0<x/256:=om;have hy:x/256<256:=om;have h2:Nat.log2 x=Nat.log2 (x/256)+8:=Ah (k:=8) om;have h3:=el _ hy0 hy;refine Z ?_;rw[e8];rw[eu _ hy];refine Z ?_;refine aC (GX (by decide +kernel) hy0 hy) ?_;refine Z ?_;exact cN (.int (by rw[et _ hy0 hy,ei _ om,show IntKind.i64.wrap (0+8)=8 by decide,bF oq];omega)) ⟨rfl,rfl,rfl⟩
  .have hc:x<256:=by simp at hc;omega
   have hy0:0<x:=om;have hy:x<256:=om;have h3:=el _ hy0 hy;refine Z ?_;rw[eu _ hy];refine Z ?_;refine aC (GX (by decide +kernel) hy0 hy) ?_;refine Z ?_;exact cN (.int (by rw[et _ hy0 hy,ei _ om,bF oq];omega)) ⟨rfl,rfl,rfl⟩
theorem Yr(x:Nat)(h0:0<x)(hx:x<4294967296):aU prog [] 178 [.int .u32 x] (.int .i64 ((31-Nat.log2 x:Nat):Int)):=by
 have hl:=Vg x h0 hx;have h1:Nat.log2 x<32:=(Nat.log2_lt om).2 om;refine aD bI func178 rfl ?_;refine Z ?_;refine hl.go ?_ (.cons nn .nil) nn;refine Z ?_;exact cN (.int (by rw[bF oq];omega)) ⟨rfl,rfl,rfl⟩
theorem Rc{x:Nat}(h0:0<x)(hx:x<4294967296):31-Nat.log2 x<32/\2147483648<=x*2 ^ (31-Nat.log2 x)/\x*2 ^ (31-Nat.log2 x)<4294967296:=by
 have h1:Nat.log2 x<32:=(Nat.log2_lt om).2 om;obtain⟨h2,h3⟩:=(aCb (by omega:x≠0)).1 rfl;generalize Nat.log2 x=m at *;refine⟨om, ?_, ?_⟩
 .have:=ZI (2 ^ (31-m)) h2;rw[<-Nat.pow_add,show m+(31-m)=31 by omega] at this;exact this
 .have:=aA8 h3 (show 0<2 ^ (31-m) from aAq H');rw[<-Nat.pow_add,show m+1+(31-m)=32 by omega] at this;exact this
def Xa(c q b j n:Nat)(L:List Nat):aR:=[(0,.row 209 1 [.int .u64 (c:Int)]),(1,.row 209 1 [.int .u64 (q:Int)]),(2,.row 209 1 [.int .u64 (b:Int)]),(3,.row 30 1 [.sl 4 j n]),(4,.row 157 1 (bA L))]
def X2(c j n:Nat)(L:List Nat):aR:=[(0,.row 209 1 [.int .u64 (c:Int)]),(1,.row 30 1 [.sl 2 j n]),(2,.row 157 1 (bA L))]
theorem cX{mem:aR}{J:List (Nat × Nat)}{i j o n m:Nat}(h:lk J i=some j)(e:n=m):rY mem J [.sl i o n] [.sl j o m]:=.cons (.one rfl rfl (.slE h e)) .nil
theorem V6{l:List Nat}{i j d:Nat}(h:l[j+i]? = some d):(bA l)[j+((i:Nat):Int).toNat]? = some (.int .u32 (d:Int)):=by rw[Y1,Hd,h];rfl
theorem U9{l:List Nat}{i j d:Nat}:(bA l).set (j+((i:Nat):Int).toNat) (.int .u32 (d:Int))=bA (l.set (j+i) d):=by rw[Y1,iU]
theorem Fi(L:List Nat)(i j x y q c b n:Nat)(hi:i<n)(hx0:L[j+i]? = some x)(hx:x<4294967296)(hy:y<4294967296)(hq:q<4294967296)(hc:c<4294967296)(hb:b<=1)(hnn:n<=1000001) :
  aJ prog [] 230 [.int .i64 i,.int .u32 y,.ptr 0 0 0,.ptr 1 0 0,.ptr 2 0 0,.ptr 3 0 0] (Xa c q b j n L) 5
  λr m k=>r = .tup []/\m=Xa ((c+q*y)/4294967296) q (if (c+q*y)%4294967296+b>x then 1 else 0) j n (L.set (j+i) (if (c+q*y)%4294967296+b>x then x+4294967296-((c+q*y)%4294967296+b) else x-((c+q*y)%4294967296+b)))/\k=5:=by
 obtain⟨q1,q2,q3,q4⟩:=HJ hq hy (show 0<4294967296 by decide) hc;have e1:IntKind.u64.wrap (y:Int)=(y:Int):=iT om;have e2:IntKind.u64.wrap ((q:Int)*(y:Int))=((q*y:Nat):Int):=by rw[<-Int.natCast_mul];exact iT om
 have e3:IntKind.u64.wrap ((c:Int)+((q*y:Nat):Int))=((c+q*y:Nat):Int):=cf
 have e4:bits .and .u64 ((c+q*y:Nat):Int) 4294967295=(((c+q*y)%4294967296:Nat):Int):=Go.Ax.bits_mask om;have hlo:(c+q*y)%4294967296<4294967296:=Zr _ H';have e5:IntKind.u64.wrap ((((c+q*y)%4294967296:Nat):Int)+(b:Int))=(((c+q*y)%4294967296+b:Nat):Int):=cf
 have e6:IntKind.u64.wrap (x:Int)=(x:Int):=iT om;have g:=V6 hx0;have bi:=jE hi;have hW:=V5 hx hlo hb;have hsh:(((c+q*y:Nat):Int).fdiv (2 ^ min (Int.toNat 32) IntKind.u64.bits))=(((c+q*y)/4294967296:Nat):Int):=B8;refine aD bI func230 rfl ?_;refine Z ?_;rw[e1,e2,e3,e4,e5,hsh];generalize (c+q*y)%4294967296=lo at *;generalize (c+q*y)/4294967296=ca at *;repeat((first|refine aK bi ?_|refine aC g ?_|refine bK ?_);refine Z ?_)
 rw[e6];refine aL (λhc=>?_) (λhc=>?_)
 all_goals
  refine Rt ?_;repeat((first|refine aK bi ?_|refine aC g ?_);refine Rt ?_)
 .have hc:lo+b>x:=by simp at hc;omega
  rw[Y7 hc] at hW;rw[Y7 hc,Y7 hc];exact bL (n':=5) (m':=Xa ca q 1 j n (L.set (j+i) (x+4294967296-(lo+b)))) [(0,0),(1,1),(2,2),(3,3),(4,4)] rfl ⟨aF 0 (kR _ _),aF 1 (kR _ _),aF 2 (kR _ _),bt,⟨4,_,rfl,rfl,.eq (aO _) (by rw[hW,U9])⟩,trivial⟩ cc C'
 .have hc:¬lo+b>x:=by simp at hc;omega
  rw[Y3 hc] at hW;rw[Y3 hc,Y3 hc];exact bL (n':=5) (m':=Xa ca q 0 j n (L.set (j+i) (x-(lo+b)))) [(0,0),(1,1),(2,2),(3,3),(4,4)] rfl ⟨aF 0 (kR _ _),aF 1 (kR _ _),aF 2 (kR _ _),bt,⟨4,_,rfl,rfl,.eq (aO _) (by rw[hW,U9])⟩,trivial⟩ cc C' 
theorem E8(L:List Nat)(i j x y c n:Nat)(hi:i<n)(hx0:L[j+i]? = some x)(hx:x<4294967296)(hy:y<4294967296)(hc:c<4294967296)(hnn:n<=1000001) :
  aJ prog [] 231 [.int .i64 i,.int .u32 y,.ptr 0 0 0,.ptr 1 0 0] (X2 c j n L) 3
  λr m k=>r = .tup []/\m=X2 ((c+(x+y))/4294967296) j n (L.set (j+i) ((c+(x+y))%4294967296))/\k=3:=by
 have e1:IntKind.u64.wrap (x:Int)=(x:Int):=iT om;have e2:IntKind.u64.wrap (y:Int)=(y:Int):=iT om;have e3:IntKind.u64.wrap ((x:Int)+(y:Int))=((x+y:Nat):Int):=cf
 have e4:IntKind.u64.wrap ((c:Int)+((x+y:Nat):Int))=((c+(x+y):Nat):Int):=cf
 have g:=V6 hx0;have bi:=jE hi;refine aD bI func231 rfl ?_;refine Z ?_;repeat((first|refine aK bi ?_|refine aC g ?_|refine bK ?_);refine Z ?_)
 rw[e1,e2,e3,e4];refine Rs ?_;repeat((first|refine aK bi ?_|refine aC g ?_);refine Rt ?_)
 exact bL (n':=3) (m':=X2 ((c+(x+y))/4294967296) j n (L.set (j+i) ((c+(x+y))%4294967296))) [(0,0),(1,1),(2,2)] rfl ⟨⟨0,_,rfl,rfl,.cons (.one rfl rfl (.int B8)) .nil⟩,⟨1,_,rfl,rfl,cX rfl rfl⟩,⟨2,_,rfl,rfl,.eq (aO _) (by rw[VA,U9])⟩,trivial⟩ cc C' 
def Xn(c q b j n:Nat)(L:List Nat):aR:=[(1,.row 209 1 [.int .u64 (c:Int)]),(2,.row 209 1 [.int .u64 (q:Int)]),(3,.row 209 1 [.int .u64 (b:Int)]),(4,.row 30 1 [.sl 0 j n]),(0,.row 157 1 (bA L))]
def YN(c j n:Nat)(L:List Nat):aR:=[(1,.row 209 1 [.int .u64 (c:Int)]),(2,.row 30 1 [.sl 0 j n]),(0,.row 157 1 (bA L))]
def gK(L S:List Nat)(j:Nat):List Nat:=L.take j++(S++L.drop (j+S.length))
theorem I9{L:List Nat}{j:Nat}:gK L [] j=L:=by simp[gK]
theorem A1{L S:List Nat}{j i u:Nat}(h:L[j+i]? = some u)(hi:S.length<=i):(gK L S j)[j+i]? = some u:=by
 have hj:=(Y4.1 h).1;have hl:(L.take j).length=j:=cx
 unfold gK;rw[ZS om,hl,ZS om,Zd,show j+S.length+(j+i-j-S.length)=j+i by omega];exact h
theorem Aj{L S:List Nat}{j u d:Nat}(h:L[j+S.length]? = some u):(gK L S j).set (j+S.length) d=gK L (S++[d]) j:=by
 obtain⟨h1,h2⟩:=Y4.1 h;have hl:(L.take j).length=j:=cx
 unfold gK;rw[Z2 _ _ om,hl,show j+S.length-j=S.length by omega,Z2 _ _ (ZA _),aAo,List.drop_eq_getElem_cons h1,aAJ,ZB,ZY];simp[Nat.add_assoc]
theorem Hc{L S:List Nat}{j:Nat}(h:j+S.length<=L.length):(gK L S j).length=L.length:=by
 simp[gK];omega
theorem Rm{L:List Nat}{j n i u:Nat}(h:((L.drop j).take n)[i]? = some u):L[j+i]? = some u:=by
 rw[Zb] at h;split at h
 .rw[Zd] at h;exact h
 .cases h
theorem IV{L S:List Nat}{j:Nat}(hL:∀d∈L,d<4294967296)(hS:∀d∈S,d<4294967296):∀d∈gK L S j,d<4294967296:=λd hd=>by
 unfold gK at hd;rcases ZO.1 hd with hd|hd
 .exact hL d (Ze hd)
 .rcases ZO.1 hd with hd|hd
  .exact hS d hd
  .exact hL d (Zn hd)
theorem Nq{L S T:List Nat}{j:Nat}(h:S.length=T.length)(hj:j+S.length<=L.length):gK (gK L S j) T j=gK L T j:=by
 have hl:(L.take j).length=j:=cx
 unfold gK;rw[aAk om,ZD om,List.drop_append,Zm om,hl,Zp,show j+T.length-j=S.length by omega,List.drop_append,aAn,aAo,ZT,Zp,h]
theorem Nr(L:List Nat)(j n q V:Nat)(hn:(dg 4294967296 V).length<=n)(bl:List Nat)(hbl:bl.length=n)(hbd:∀d∈bl,d<4294967296)(hbv:vl 4294967296 bl=V)(hL:∀d∈L,d<4294967296)(hj:j+(n+1)<=L.length)(hll:L.length<=1000001)(hq:q<4294967296)
  (U:Nat) (hU:U=vl 4294967296 ((L.drop j).take (n+1))) (hqv:q*V<=U+V) :
  aJ prog [] 181 [.sl 0 j (n+1),.il 1 (bA bl),.int .u64 q] [(0,.row 157 1 (bA L))] 1
  λr m k=>r = .bool (decide (U<q*V))/\m=[(0,.row 157 1 (bA (gK L (dY (dg 4294967296 (if U<q*V then U+V-q*V else U-q*V)) (n+1)) j)))]/\k=1:=by
 have hB:(2:Nat)<=4294967296:=H'
 obtain⟨A,hA⟩:∃A,A=(L.drop j).take (n+1):=cm
 rw[<-hA] at hU;have hAl:A.length=n+1:=by rw[hA,ZQ,aAg];omega
 have hAd:∀d∈A,d<4294967296:=λd hd=>hL d (Zn (Ze (by rw[hA] at hd;exact hd)))
 have hAg:∀i u,A[i]? = some u->L[j+i]? = some u:=λi u h=>Rm (by rw[<-hA];exact h)
 clear hA;refine aD bI func181 rfl ?_;refine Rt ?_;refine bJ.at bI (λp:List Nat × Nat × Nat=>p.1.length<=n/\(∀d∈p.1,d<4294967296)/\p.2.1<4294967296/\p.2.2<=1/\vl 4294967296 p.1+q*vl 4294967296 (bl.take p.1.length)=vl 4294967296 (A.take p.1.length)+4294967296 ^ p.1.length*(p.2.1+p.2.2))
  (λp=>⟨[(1,.il 1 (bA bl)),(3,.ptr 4 0 0),(7,.ptr 1 0 0),(8,.ptr 3 0 0),(9,.fn (.func 230) [] [.ptr 1 0 0,.ptr 2 0 0,.ptr 3 0 0,.ptr 4 0 0]),(16,.il 1 (bA bl)),(17,.int .i64 n),(18,.int .i64 p.1.length)],Xn p.2.1 q p.2.2 j (n+1) (gK L p.1 j),5,51⟩)
  (λp=>n-p.1.length) ([],0,0) [(3,1),(2,2),(4,3),(1,4),(0,0)] ⟨sq,sq,sq,sq,by simp[vl]⟩
  (aH _ rfl ⟨aF 3 (kR _ _),aF 2 (kR _ _),aF 4 (kR _ _),⟨1,_,rfl,rfl,cX rfl rfl⟩,⟨0,_,rfl,rfl,.eq (aO _) (by rw[I9])⟩,trivial⟩
   ⟨aP (.il' (aO _)),aM,aM,aM,⟨_,rfl,.fn _ _ _ _ _ rfl rfl sq (iS.cons (.ptr 3 1 0 0 rfl) (.cons (.ptr 2 2 0 0 rfl) (.cons (.ptr 4 3 0 0 rfl) (.cons (.ptr 1 4 0 0 rfl) .nil)))).2⟩,aP (.il' (aO _)),⟨_,rfl,.int (by rw[aT,hbl])⟩,aG,trivial⟩) ?_
 rintro⟨S,c,b⟩ ⟨h1,h2,h3,h4,h5⟩;simp only at h1 h2 h3 h4 h5 |-;refine Z ?_;refine aL (λhb=>?_) (λhb=>?_)
 .have hlt:S.length<n:=su hb
  obtain⟨u,hu⟩:∃u,A[S.length]? = some u:=⟨_,Yz om⟩
  obtain⟨v,hv⟩:∃v,bl[S.length]? = some v:=⟨_,Yz om⟩
  have hul:=hAd _ (Y5 hu);have hvl:=hbd _ (Y5 hv);have g2:=z8 hv;have hLu:=hAg _ _ hu;have hst:=Fi (gK L S j) S.length j u v q c b (n+1) om (A1 hLu (ZA _)) hul hvl hq h3 h4 om;rw[Aj hLu] at hst;have hstep:=FI (B:=4294967296) hB (s:=S) (x:=u) (y:=v) (q:=q) (c:=c) (b:=b) rfl h5 hul h4;obtain⟨-,-,-,hcl⟩:=HJ hq hvl (show 0<4294967296 by decide) h3;rw[Zs] at hcl;have hdg:=rF (B:=4294967296) (x:=u) (y:=(c+q*v)%4294967296) (b:=b) hul (Zr _ H') h4;generalize (if (c+q*v)%4294967296+b>u then u+4294967296-((c+q*v)%4294967296+b) else u-((c+q*v)%4294967296+b))=d at hst hstep hdg;have hbo:(if (c+q*v)%4294967296+b>u then 1 else 0)<=1:=by split<;>omega
  generalize (if (c+q*v)%4294967296+b>u then 1 else 0)=bo at hst hstep hbo;generalize (c+q*v)/4294967296=ca at hst hstep hcl;refine Z ?_;repeat((first|refine aC g2 ?_|refine bK ?_);refine Z ?_)
  refine aJ.useN bI [(1,0),(2,1),(3,2),(4,3),(0,4)] hst rfl (.s (.s (.cons (.ptr 1 0 0 0 rfl) (.cons (.ptr 2 1 0 0 rfl) (.cons (.ptr 3 2 0 0 rfl) (.cons (.ptr 4 3 0 0 rfl) .nil)))))) gq rfl ?_;rintro r' m' n' ⟨rfl,rfl,rfl⟩;refine⟨[(0,1),(1,2),(2,3),(3,4),(4,0)],_,Xn ca q bo j (n+1) (gK L (S++[d]) j),5,.same _ nn,⟨aF 0 (kR _ _),aF 1 (kR _ _),aF 2 (kR _ _),bt,aF 4 (aO _),trivial⟩,rfl, ?_⟩;refine Z ?_;exact .mk (S++[d],ca,bo) [(0,0),(1,1),(2,2),(3,3),(4,4)] ⟨by simp;omega,f0 h2 hdg,hcl,hbo,by
     simp only[ZB,ZY];rw[iL hu,iL hv,Nat.mul_add q,aAF q];exact hstep⟩
   (aH _ rfl gq
    ⟨aP (.il' (aO _)),aM,aM,aM,⟨_,rfl,(.fn _ _ _ _ _ rfl rfl sq (iS.cons co (.cons (.ptr 2 2 0 0 rfl) (.cons (.ptr 3 3 0 0 rfl) (.cons (.ptr 4 4 0 0 rfl) .nil)))).2)⟩,aP (.il' (aO _)),aG,Z',trivial⟩) B'
 .have hlt:S.length=n:=by simp at hb;omega
  rw[hlt,<-hbl,ZK,hbv] at h5;obtain⟨u,hu⟩:∃u,A[S.length]? = some u:=⟨_,Yz om⟩
  have hul:=hAd _ (Y5 hu);have hLu:=hAg _ _ hu;have hst:=Fi (gK L S j) S.length j u 0 q c b (n+1) om (A1 hLu (ZA _)) hul H' hq h3 h4 om;rw[Aj hLu] at hst;have hstep:=FI (B:=4294967296) hB (s:=S) (X:=q*V) (A:=vl 4294967296 (A.take bl.length)) (x:=u) (y:=0) (q:=q) (c:=c) (b:=b) (i:=S.length) rfl (by rw[hlt,<-hbl];exact h5) hul h4;simp only[aAy,Zs,Zt h3,aAh h3] at hst hstep;have hdg:=rF (B:=4294967296) (x:=u) (y:=c) (b:=b) hul h3 h4;generalize (if c+b>u then u+4294967296-(c+b) else u-(c+b))=d at hst hstep hdg;have hbo:(if c+b>u then 1 else 0)<=1:=by split<;>omega
  generalize (if c+b>u then 1 else 0)=bo at hst hstep hbo;have hSd:(S++[d]).length=n+1:=B'
  have hUt:vl 4294967296 (A.take bl.length)+4294967296 ^ S.length*u=U:=by
   rw[hbl,<-hlt,<-iL hu,hlt,hU,ZD om]
  rw[hUt,ZP] at hstep;have hlt2:=qN hB (S++[d]) (f0 h2 hdg);rw[hSd] at hlt2;rw[hlt] at hstep hst;have hall:=f0 h2 hdg;generalize S++[d]=S2 at *;refine Z ?_;rw[aT,hbl];refine aJ.useN bI [(1,0),(2,1),(3,2),(4,3),(0,4)] hst rfl (.s (.s (.cons (.ptr 1 0 0 0 rfl) (.cons (.ptr 2 1 0 0 rfl) (.cons (.ptr 3 2 0 0 rfl) (.cons (.ptr 4 3 0 0 rfl) .nil)))))) gq rfl ?_;rintro r' m' n' ⟨rfl,rfl,rfl⟩;refine⟨[(0,1),(1,2),(2,3),(3,4),(4,0)],_,Xn 0 q bo j (n+1) (gK L S2 j),5,.same _ nn,⟨aF 0 (kR _ _),aF 1 (kR _ _),aF 2 (kR _ _),bt,aF 4 (aO _),trivial⟩,rfl, ?_⟩;refine Z ?_;rcases(show bo=0\/bo=1 by omega) with rfl|rfl
  .have hge:¬U<q*V:=by rw[aAy] at hstep;omega
   have hS2:S2=dY (dg 4294967296 (U-q*V)) (n+1):=by
    have:=j8 hB S2 hall;rw[hSd,show vl 4294967296 S2=U-q*V by omega] at this;exact this
   refine Z ?_;exact bL (r':=.bool (decide (U<q*V))) (n':=1) (m':=[(0,.row 157 1 (bA (gK L (dY (dg 4294967296 (if U<q*V then U+V-q*V else U-q*V)) (n+1)) j)))]) [(0,0)] rfl ⟨⟨0,_,rfl,rfl,.eq (aO _) (by rw[Y3 hge,<-hS2])⟩,trivial⟩ (.bool (by rw[ZG hge])) C'
  .have hlt3:U<q*V:=by rw[aAL] at hstep;omega
   have hVlt:V<4294967296 ^ (n+1):=Z3 (fI hB) (Zo H' om);refine Rt ?_;refine bJ.at bI (λp:List Nat × Nat=>p.1.length<=n/\(∀d∈p.1,d<4294967296)/\p.2<=1/\vl 4294967296 p.1+4294967296 ^ p.1.length*p.2=vl 4294967296 (S2.take p.1.length)+vl 4294967296 (bl.take p.1.length))
    (λp=>⟨[(1,.il 1 (bA bl)),(12,.fn (.func 231) [] [.ptr 1 0 0,.ptr 2 0 0]),(35,.il 1 (bA bl)),(36,.int .i64 n),(37,.int .i64 p.1.length)],YN p.2 j (n+1) (gK (gK L S2 j) p.1 j),3,51⟩)
    (λp=>n-p.1.length) ([],0) [(1,1),(4,2),(0,0)] ⟨sq,sq,sq,by simp[vl]⟩
    (aH _ rfl ⟨aF 1 (kR _ _),⟨4,_,rfl,rfl,cX rfl rfl⟩,⟨0,_,rfl,rfl,.eq (aO _) (by rw[I9])⟩,trivial⟩
     ⟨aP (.il' (aO _)),⟨_,rfl,(.fn _ _ _ _ _ rfl rfl sq (iS.cons co (.cons (.ptr 4 2 0 0 rfl) .nil)).2)⟩,aP (.il' (aO _)),⟨_,rfl,.int (by rw[aT,hbl])⟩,aG,trivial⟩) ?_
   have hLS:=IV (j:=j) hL hall;have hLl:(gK L S2 j).length=L.length:=Hc om;have hLg:∀i u,S2[i]? = some u->(gK L S2 j)[j+i]? = some u:=λi u h=>by
    have hi:=(Y4.1 h).1;have hl:(L.take j).length=j:=cx
    unfold gK;rw[ZS om,hl,aBj,ZR hi];exact h
   clear h1 h2 h3 h4 h5 hst hu hul hLu hUt hdg hbo hlt S c b u d hb;rintro⟨S,c⟩ ⟨h1,h2,h4,h5⟩;simp only at h1 h2 h4 h5 |-;refine Z ?_;refine aL (λhb=>?_) (λhb=>?_)
   .have hlt:S.length<n:=su hb
    obtain⟨u,hu⟩:∃u,S2[S.length]? = some u:=⟨_,Yz om⟩
    obtain⟨v,hv⟩:∃v,bl[S.length]? = some v:=⟨_,Yz om⟩
    have hul:=hall _ (Y5 hu);have hvl:=hbd _ (Y5 hv);have g2:=z8 hv;have hLu:=hLg _ _ hu;have hst:=E8 (gK (gK L S2 j) S j) S.length j u v c (n+1) om (A1 hLu (ZA _)) hul hvl om om;rw[Aj hLu] at hst;have hstep2:=vI (B:=4294967296) hB (s:=S) (x:=u) (y:=v) rfl h5;have hdv:(c+(u+v))/4294967296<=1:=om;have hmd:(c+(u+v))%4294967296<4294967296:=Zr _ H';refine Z ?_;repeat((first|refine aC g2 ?_|refine bK ?_);refine Z ?_)
    refine aJ.useN bI [(1,0),(2,1),(0,2)] hst rfl (.s (.s (.cons (.ptr 1 0 0 0 rfl) (.cons (.ptr 2 1 0 0 rfl) .nil)))) ⟨aF 1 (kR _ _),⟨2,_,rfl,rfl,cX rfl rfl⟩,aF 0 (aO _),trivial⟩ rfl ?_;rintro r' m' n' ⟨rfl,rfl,rfl⟩;refine⟨[(0,1),(1,2),(2,0)],_,YN ((c+(u+v))/4294967296) j (n+1) (gK (gK L S2 j) (S++[(c+(u+v))%4294967296]) j),3,.same _ nn,⟨aF 0 (kR _ _),⟨1,_,rfl,rfl,cX rfl rfl⟩,aF 2 (aO _),trivial⟩,rfl, ?_⟩;refine Z ?_;exact .mk (S++[(c+(u+v))%4294967296],(c+(u+v))/4294967296) [(0,0),(1,1),(2,2)] ⟨by simp;omega,f0 h2 hmd,hdv,by simp only[ZB,ZY];rw[iL hu,iL hv];exact hstep2⟩
     (aH _ rfl ⟨aF 1 (kR _ _),⟨2,_,rfl,rfl,cX rfl rfl⟩,aF 0 (aO _),trivial⟩
      ⟨aP (.il' (aO _)),⟨_,rfl,(.fn _ _ _ _ _ rfl rfl sq (iS.cons co (.cons (.ptr 2 2 0 0 rfl) .nil)).2)⟩,aP (.il' (aO _)),aG,Z',trivial⟩) B'
   .have hlt:S.length=n:=by simp at hb;omega
    rw[hlt,<-hbl,ZK,hbv] at h5;obtain⟨u,hu⟩:∃u,S2[S.length]? = some u:=⟨_,Yz om⟩
    have hul:=hall _ (Y5 hu);have hLu:=hLg _ _ hu;have hst:=E8 (gK (gK L S2 j) S j) S.length j u 0 c (n+1) om (A1 hLu (ZA _)) hul H' om om;rw[Aj hLu] at hst;have hstep2:=vI (B:=4294967296) hB (s:=S) (va:=vl 4294967296 (S2.take bl.length)) (vb:=V) (c:=c) (i:=S.length) (x:=u) (y:=0) rfl (by rw[hlt,<-hbl];exact h5);have hdv:(c+(u+0))/4294967296<=1:=om;have hmd:(c+(u+0))%4294967296<4294967296:=Zr _ H';have hSd2:(S++[(c+(u+0))%4294967296]).length=n+1:=B'
    have hUt2:vl 4294967296 (S2.take bl.length)+4294967296 ^ S.length*u=vl 4294967296 S2:=by
     rw[hbl,<-hlt,<-iL hu,hlt,ZD om]
    rw[hUt2,aAy,Zs] at hstep2;have hall2:=f0 h2 hmd;have hlt4:=qN hB (S++[(c+(u+0))%4294967296]) hall2;rw[hSd2] at hlt4;rw[hlt] at hstep2 hst;generalize S++[(c+(u+0))%4294967296]=T at *;generalize (c+(u+0))/4294967296=c2 at *;have hc2:c2=1:=by
     rcases(show c2=0\/c2=1 by omega) with e|e
     .exfalso;rw[e,aAy] at hstep2;rw[aAL] at hstep;omega
     .exact e
    have hT:T=dY (dg 4294967296 (U+V-q*V)) (n+1):=by
     have:=j8 hB T hall2;rw[hSd2,show vl 4294967296 T=U+V-q*V by rw[hc2,aAL] at hstep2;rw[aAL] at hstep;omega] at this;exact this
    have hseg:gK (gK L S2 j) T j=gK L T j:=Nq om om;rw[hseg] at hst;refine Z ?_;rw[aT,hbl];refine aJ.useN bI [(1,0),(2,1),(0,2)] hst rfl (.s (.s (.cons (.ptr 1 0 0 0 rfl) (.cons (.ptr 2 1 0 0 rfl) .nil)))) ⟨aF 1 (kR _ _),⟨2,_,rfl,rfl,cX rfl rfl⟩,aF 0 (aO _),trivial⟩ rfl ?_;rintro r' m' n' ⟨rfl,rfl,rfl⟩;refine⟨[(0,1),(1,2),(2,0)],_,YN c2 j (n+1) (gK L T j),3,.same _ nn,⟨aF 0 (kR _ _),⟨1,_,rfl,rfl,cX rfl rfl⟩,aF 2 (aO _),trivial⟩,rfl, ?_⟩;refine Z ?_;exact bL (r':=.bool (decide (U<q*V))) (n':=1) (m':=[(0,.row 157 1 (bA (gK L (dY (dg 4294967296 (if U<q*V then U+V-q*V else U-q*V)) (n+1)) j)))]) [(0,0)] rfl ⟨⟨0,_,rfl,rfl,.eq (aO _) (by rw[Y7 hlt3,<-hT])⟩,trivial⟩ (.bool (by rw[Y8 hlt3])) C' 
def Qh(n nl qn:Nat)(dl N Q:List Nat):aR:=[(0,.row 30 1 [.sl 4 0 nl]),(1,.row 3 1 [.int .i64 (n:Int)]),(2,.row 30 1 [.il 1 (bA dl)]),(3,.row 30 1 [.sl 5 0 qn]),(4,.row 157 1 (bA N)),(5,.row 157 1 (bA Q))]
theorem lF{mem:aR}{J:List (Nat × Nat)}{l:List Nat}:rY mem J [.il 1 (bA l)] [.il 1 (bA l)]:=.same (λa ha=>by rw[aA9.1 ha];exact .il' (aO _))
theorem RI(N Q dl:List Nat)(j n q V U nl qn:Nat)(hV:(dg 4294967296 V).length<=n)(hbl:dl.length=n)(hbd:∀d∈dl,d<4294967296)(hbv:vl 4294967296 dl=V)(hN:∀d∈N,d<4294967296)(hNl:N.length=nl)(hj:j+(n+1)<=nl)(hnn:nl<=1000001)(hQl:Q.length=qn)(hjq:j<qn)(hq:q<4294967296)
  (hU:U=vl 4294967296 ((N.drop j).take (n+1))) (up:U<(q+1)*V) (hqv:q*V<=U+V) :
  aJ prog [] 180 [.int .i64 j,.int .u64 q,.ptr 0 0 0,.ptr 1 0 0,.ptr 2 0 0,.ptr 3 0 0] (Qh n nl qn dl N Q) 6
  λr m k=>r = .tup []/\m=Qh n nl qn dl (gK N (dY (dg 4294967296 (U%V)) (n+1)) j) (Q.set j (U/V))/\k=6:=by
 have hT:=Nr N j n q V hV dl hbl hbd hbv hN om om hq U hU hqv;obtain⟨z,hz⟩:∃z,Q[j]? = some z:=⟨_,Yz om⟩
 have g:=mU hz;have bi:=jE (i:=j) (n:=qn) hjq;have e1:IntKind.i64.wrap ((j:Int)+(n:Int))=((j+n:Nat):Int):=Y'
 have e2:IntKind.i64.wrap (((j+n:Nat):Int)+1)=((j+(n+1):Nat):Int):=Y'
 refine aD bI func180 rfl ?_;refine Z ?_;rw[e1,e2];refine Z ?_;have e3:0+((j:Nat):Int).toNat=j:=by rw[Y1];omega
 have e4:((j+(n+1):Nat):Int).toNat-((j:Nat):Int).toNat=n+1:=by rw[Y1,Y1];omega
 refine aK (by rw[Y1,Y1,Y2 om,Y2 hj,Y2 (ZA _)];rfl) ?_;refine Z ?_;rw[e3,e4];refine aJ.useN bI [(4,0)] hT rfl (.cons (.sl 4 0 j (n+1) rfl) (.cons (.same _ (.il' (aO _))) ax)) ⟨aF 4 (aO _),trivial⟩ rfl ?_;rintro r' m' n' ⟨rfl,rfl,rfl⟩;refine⟨[(0,4)],_,[(4,.row 157 1 (bA (gK N (dY (dg 4294967296 (if U<q*V then U+V-q*V else U-q*V)) (n+1)) j)))],16,.same _ nn,dt,rfl, ?_⟩;refine Rt ?_;by_cases hc:U<q*V
 .rw[Y7 hc,Y8 hc];have hq0:0<q:=by
   rcases ZF q with e|e
   .rw[e,aBS] at hc;omega
   .exact e
  obtain⟨q1,q2⟩:=KL hq0 hc hqv;have e5:IntKind.u64.wrap ((q:Int)-1)=((q-1:Nat):Int):=by rw[show (q:Int)-1=((q-1:Nat):Int) by omega];exact iT om
  rw[show U+V-q*V=U%V by omega];refine Z ?_;rw[e5];refine Rs ?_;repeat((first|refine aK bi ?_|refine aC g ?_);refine Rt ?_)
  exact bL (n':=6) (m':=Qh n nl qn dl (gK N (dY (dg 4294967296 (U%V)) (n+1)) j) (Q.set j (U/V))) [(0,0),(1,1),(2,2),(3,3),(4,4),(5,5)] rfl ⟨cq,aF 1 (kR _ _),gd,bt,aF 4 (aO _),⟨5,_,rfl,rfl,.eq (aO _) (by rw[JP om,Y1,ZP,iU,q1])⟩,trivial⟩ cc C'
 .rw[Y3 hc,ZG hc];obtain⟨q1,q2⟩:=vM up om;rw[<-q2];refine Rt ?_;repeat((first|refine aK bi ?_|refine aC g ?_);refine Rt ?_)
  exact bL (n':=6) (m':=Qh n nl qn dl (gK N (dY (dg 4294967296 (U%V)) (n+1)) j) (Q.set j (U/V))) [(0,0),(1,1),(2,2),(3,3),(4,4),(5,5)] rfl ⟨cq,aF 1 (kR _ _),gd,bt,aF 4 (aO _),⟨5,_,rfl,rfl,.eq (aO _) (by rw[JP om,Y1,ZP,iU,q1])⟩,trivial⟩ cc C' 
theorem AE:∀l:List Nat,eB l=l.take (eB l).length
 | []=>rfl
 | d::r=>by
  rw[eB];split
  .rfl
  .rw[ZZ,List.take_succ_cons,<-AE r]
theorem Uo(l:List Nat)(n:Nat)(hn:n<=l.length)(hl:l.length<=4294967296):aJ prog [] 86 [.sl 0 0 n] [(0,.row 157 1 (bA l))] 1
  λr m k=>r = .sl 0 0 (eB (l.take n)).length/\m=[(0,.row 157 1 (bA l))]/\k=1:=by
 refine aD bI func86 rfl ?_;refine Z ?_;refine bJ.at bI (λk:Nat=>k<=n/\eB (l.take k)=eB (l.take n)) (λk=>⟨[(0,.sl 0 0 k)],[(0,.row 157 1 (bA l))],1,21⟩) (λk=>k) n [(0,0)] ⟨ZA _,rfl⟩
  (aH _ rfl ⟨aF 0 (aO _),trivial⟩ ⟨⟨_,rfl,.slE rfl rfl⟩,trivial⟩) ?_
 rintro k ⟨hk,ht⟩;refine Z ?_;refine aL (λhb=>?_) (λhb=>?_)
 .rw[hb];have hk0:0<k:=su hb
  obtain⟨j,rfl⟩:∃j,k=j+1:=⟨k-1,om⟩
  obtain⟨d,hd⟩:∃d,l[j]? = some d:=⟨_,Yz om⟩
  have hw:IntKind.i64.wrap (((j+1:Nat):Int)-1)=(j:Int):=by rw[bF oq];omega
  have e1:=mU hd;have bi:=jE (i:=j) (n:=j+1) om;have hts:eB (l.take (j+1))=if d=0 then eB (l.take j) else l.take (j+1):=by
   rw[rM hd,tJ]
  refine Z ?_;rw[hw];refine aK bi ?_;refine Z ?_;refine aC e1 ?_;refine Z ?_;refine aC e1 ?_;refine Z ?_;refine aL (λhc=>?_) (λhc=>?_)
  .have hd0:d=0:=su hc
   refine Z ?_;rw[hw];refine aK (Kf om) ?_;refine Z ?_;exact .mk j [(0,0)] ⟨om,by rw[Y7 hd0] at hts;rw[<-hts];exact ht⟩ (aH _ rfl ⟨aF 0 (aO _),trivial⟩ ⟨⟨_,rfl,.slE rfl sq⟩,trivial⟩) om
  .refine Z ?_;have hd0:d≠0:=su hc
   rw[Y3 hd0] at hts;exact bL (n':=1) (m':=[(0,.row 157 1 (bA l))]) [(0,0)] rfl ⟨aF 0 (aO _),trivial⟩ (.slE rfl (by rw[<-ht,hts,ZQ];omega)) ⟨rfl,rfl,rfl⟩
 .try rw[hb]
  have hk0:k=0:=by simp at hb;omega
  subst hk0;refine Z ?_;exact bL (n':=1) (m':=[(0,.row 157 1 (bA l))]) [(0,0)] rfl ⟨aF 0 (aO _),trivial⟩ (.slE rfl (by rw[<-ht];rfl)) ⟨rfl,rfl,rfl⟩
theorem UX{d:Nat}(h0:0<d)(h:d<4294967296):dg 4294967296 d=[d]:=by
 rw[kV H' h0,Zt h,aAh h,eA]
theorem QF{y s:Nat}{b:List Nat}{n u:Nat}(hb:b=dg 4294967296 y)(hl:b.length=n+1)(hu:b[n]? = some u)(h1:2147483648<=u*2 ^ s)(h2:u*2 ^ s<4294967296)(hs:s<32) :
  2147483648*4294967296 ^ n<=y*2 ^ s/\y*2 ^ s<4294967296 ^ (n+1):=by
 have hB:(2:Nat)<=4294967296:=H'
 have hd:=eJ hB y;have hv:=fM hB y;rw[<-hb] at hd hv;have e:=oX 4294967296 b n om;rw[dG hu,Zm om,hv] at e;have hlt:=qN hB (b.take n) λd hm=>hd d (Ze hm)
 rw[ZQ,Z5 om] at hlt;simp only[vl,aAy,Zs] at e;have hp:0<2 ^ s:=aAq H';constructor
 .have:4294967296 ^ n*(u*2 ^ s)<=y*2 ^ s:=by rw[<-Nat.mul_assoc];exact ZI _ om
  have h3:4294967296 ^ n*2147483648<=4294967296 ^ n*(u*2 ^ s):=Zq _ h1;rw[ZV 2147483648];omega
 .have h3:y<4294967296 ^ n*(u+1):=by rw[Nat.mul_add,aAL];omega
  have h4:y*2 ^ s<4294967296 ^ n*(u+1)*2 ^ s:=aA8 h3 hp;have h5:(u+1)*2 ^ s<=4294967296:=by
   have hpq:2 ^ s*2 ^ (32-s)=4294967296:=BJ om;rw[<-hpq,ZV] at h2;have:u<2 ^ (32-s):=aBe h2;rw[<-hpq,ZV];exact Zq _ this
  have h6:4294967296 ^ n*((u+1)*2 ^ s)<=4294967296 ^ n*4294967296:=Zq _ h5;rw[Nat.pow_succ];rw[Nat.mul_assoc] at h4;omega
theorem Pa(y:Nat)(hy0:0<y)(hb2:2<=(dg 4294967296 y).length):∃n u s,(dg 4294967296 y).length=n+2/\(dg 4294967296 y)[n+1]? = some u/\s<32/\2147483648*4294967296 ^ (n+1)<=y*2 ^ s/\y*2 ^ s<4294967296 ^ (n+1+1)/\(dg 4294967296 (y*2 ^ s)).length=n+2 /\
  aU prog [] 178 [.int .u32 u] (.int .i64 (s:Nat)):=by
 have hB:(2:Nat)<=4294967296:=H'
 obtain⟨n,hn⟩:∃n,(dg 4294967296 y).length=n+2:=⟨(dg 4294967296 y).length-2,om⟩
 obtain⟨u,hu⟩:∃u,(dg 4294967296 y)[n+1]? = some u:=⟨_,Yz om⟩
 have hul:=eJ hB y _ (Y5 hu);have hu0:0<u:=by
  have h1:=oX 4294967296 (dg 4294967296 y) (n+1) om;rw[dG hu,Zm om,fM hB] at h1;have h2:=qN hB ((dg 4294967296 y).take (n+1)) λd hm=>eJ hB y d (Ze hm)
  rw[ZQ,Z5 om] at h2;have h3:=En hB y hy0;rw[hn,show n+2-1=n+1 by omega] at h3;clear hn hu hul;simp only[vl,aAy,Zs] at h1;generalize 4294967296 ^ (n+1)=P at *;rcases ZF u with e|e
  .rw[e,aAy,Zs] at h1;omega
  .exact e
 have hlz:=Yr u hu0 hul;obtain⟨s1,s2,s3⟩:=Rc hu0 hul;generalize 31-Nat.log2 u=s at *;obtain⟨v1,v2⟩:=QF rfl hn hu s2 s3 s1;refine⟨n,u,s,hn,hu,s1,v1,v2, ?_,hlz⟩;have h1:=fT hB v2;rcases ZL (dg 4294967296 (y*2 ^ s)).length (n+2) with h2|h2
 .exfalso;have h3:=fI (n:=y*2 ^ s) hB;have h4:4294967296 ^ (dg 4294967296 (y*2 ^ s)).length<=4294967296 ^ (n+1):=Zo H' om;have h6:y*2 ^ s<4294967296 ^ (n+1):=Z3 h3 h4;have h7:2147483648*4294967296 ^ (n+1)<4294967296 ^ (n+1):=aAc v1 h6;generalize 4294967296 ^ (n+1)=P at h7;omega
 .omega
theorem GN{L:List Nat}{j n i u:Nat}(h:L[j+i]? = some u)(hi:i<n):((L.drop j).take n)[i]? = some u:=by
 rw[Zb,Y7 hi,Zd];exact h
structure Yi(qn lx V X m:Nat)(N R:List Nat):Prop where
 a1:m<=qn
 a2:N.length=lx+1
 a3:∀d∈N,d<4294967296
 a4:R.length=qn-m
 a5:∀d∈R,d<4294967296
 a6:vl 4294967296 R*4294967296 ^ m*V+vl 4294967296 N=X
 a7:vl 4294967296 N<V*4294967296 ^ m
theorem LC(x y:Nat)(hy0:0<y)(hx:(dg 4294967296 x).length<=1000000)(hy:(dg 4294967296 y).length<=1000000):aU prog [] 112 [.il 1 (bA (dg 4294967296 x)),.il 1 (bA (dg 4294967296 y))] (.tup [.il 1 (bA (dg 4294967296 (x/y))),.il 1 (bA (dg 4294967296 (x%y)))]):=by
 have hB:(2:Nat)<=4294967296:=H'
 have hcm:=UY x y om;have ta:NN (.il 1 (bA (dg 4294967296 x))):=.il' (aO _);have tb:NN (.il 1 (bA (dg 4294967296 y))):=.il' (aO _);have tr:NN (.tup [.il 1 (bA (dg 4294967296 (x/y))),.il 1 (bA (dg 4294967296 (x%y)))]):=.tup' (.cons (.il' (aO _)) (.cons (.il' (aO _)) .nil));refine aD bI func112 rfl ?_;refine Z ?_;refine hcm.go ?_ (.cons ta (.cons tb .nil)) nn;refine Z ?_;refine aL (λhb=>?_) (λhb=>?_)
 .have hlt:x<y:=by
   have hb:fJ (x:Int) y<0:=su hb
   unfold fJ at hb;split at hb<;>(try split at hb)<;>omega
  rw[aAh hlt,Zt hlt,eA];refine Z ?_;exact cN (r':=.tup [.il 1 (bA []),.il 1 (bA (dg 4294967296 x))]) (.tup' (.cons (.nil 1) (.cons (.same _ ta) .nil))) C'
 .have hge:y<=x:=by
   have hb:¬fJ (x:Int) y<0:=su hb
   unfold fJ at hb;split at hb<;>(try split at hb)<;>omega
  have hlen:=cU hB hge;clear hb hcm;refine Z ?_;rw[aT];refine aL (λhb=>?_) (λhb=>?_)
  .have hb1:(dg 4294967296 y).length=1:=by simp at hb;omega
   have hyB:y<4294967296:=by
    have:=fI (n:=y) hB;rw[hb1] at this;simpa using this
   have hdw:=IP x y hx hy0 hyB;have g:(bA (dg 4294967296 y))[0]? = some (.int .u32 (y:Int)):=by rw[UX hy0 hyB];rfl
   have hlp:(dY (dg 4294967296 (x/y)) (dg 4294967296 x).length).length<=4294967296:=by
    have:=xC hB x y;rw[iH this];omega
   have tq:∀l,NN (.il 1 (bA l)):=λl=>.il' (aO l)
   refine Z ?_;refine aC g ?_;refine Z ?_;refine hdw.go ?_ (.cons ta G') (.tup' (.cons (tq _) G'));refine Z ?_;refine(xL _ hlp).go ?_ (.cons (tq _) .nil) (tq _);rw[zE];refine Z ?_;have hr:x%y<4294967296:=Nat.lt_trans (Zr _ hy0) hyB;have hz:eB [x%y]=dg 4294967296 (x%y):=by
    rw[jO hB [x%y] (λd hd=>by rw[aA9.1 hd];exact hr)];simp[vl]
   refine aJ.pre bI [] (mem':=[]) rfl trivial (.cons (.fz' (id:=0) (ys:=bA [x%y]) rfl rfl sq (by simp[bA]) (aO _)) .nil) ?_;refine(xL [x%y] sq).go ?_ (.cons (tq _) .nil) (tq _);rw[hz];refine Z ?_;exact aA tr C'
  .have hb2:2<=(dg 4294967296 y).length:=by
    have:0<(dg 4294967296 y).length:=by
     have:=fL (B:=4294967296) (n:=y) hB;rw[Zg] at this;exact this.2 hy0
    simp at hb;omega
   obtain⟨n,u,s,hn,hu,s1,v1,v2,hVl,hlz⟩:=Pa y hy0 hb2;have hw:IntKind.i64.wrap (((bA (dg 4294967296 y)).length:Int)-1)=((n+1:Nat):Int):=by rw[aT,hn,bF oq];omega
   have gu:=z8 hu;have hsx:=IS x s s1 hx;have hsy:=IS y s s1 hy;rw[hn] at hsy;obtain⟨lx,hlx⟩:∃lx,lx=(dg 4294967296 x).length:=cm
   rw[<-hlx] at hsx;obtain⟨Nl,hNl⟩:∃Nl,Nl=dY (dg 4294967296 (x*2 ^ s)) (lx+1):=cm
   rw[<-hNl] at hsx;obtain⟨Dl,hDl⟩:∃Dl,Dl=dY (dg 4294967296 (y*2 ^ s)) (n+2+1):=cm
   rw[<-hDl] at hsy;have ebl:=aT (dg 4294967296 y);rw[hn] at ebl;generalize hbE:bA (dg 4294967296 y)=bE at *;generalize haE:bA (dg 4294967296 x)=aE at *;refine Z ?_;rw[hw];refine Z ?_;refine aC gu ?_;refine Z ?_;refine hlz.go ?_ G' nn;refine Z ?_;refine aJ.useN bI [] hsx rfl (.same (.cons ta G')) trivial rfl ?_;rintro r' m' n' ⟨rfl,rfl,rfl⟩;refine⟨[(0,13)],.sl 13 0 (lx+1),[(13,.row 157 1 (bA Nl))],14,.sl 0 13 0 _ rfl,dt,rfl, ?_⟩;refine Z ?_;refine aJ.useN bI [] hsy rfl (.same (.cons tb G')) trivial rfl ?_;rintro r' m' n' ⟨rfl,rfl,rfl⟩;refine⟨[(0,14)],.sl 14 0 (n+2+1),[(14,.row 157 1 (bA Dl))],15,.sl 0 14 0 _ rfl,dt,rfl, ?_⟩;have hV:=fM hB (y*2 ^ s);have hVd:=eJ hB (y*2 ^ s);have hDe:Dl=dg 4294967296 (y*2 ^ s)++[0]:=by rw[hDl];unfold dY;rw[hVl,show n+2+1-(n+2)=1 by omega];rfl
   have hNle:(dg 4294967296 (x*2 ^ s)).length<=lx+1:=by
    refine fT hB ?_;have h1:=fI (n:=x) hB;have h2:2 ^ s<4294967296:=by rw[show 4294967296=2 ^ 32 by decide];exact Nat.pow_lt_pow_right H' s1
    rw[<-hlx] at h1;rw[Nat.pow_succ];exact Nat.mul_lt_mul'' h1 h2
   have hNv:vl 4294967296 Nl=x*2 ^ s:=by rw[hNl,Ce,fM hB]
   have hNd:∀d∈Nl,d<4294967296:=λd hd=>by
    rw[hNl] at hd;rcases ZO.1 hd with h|h
    .exact eJ hB _ d h
    .rw[aAw h];decide
   have hNlen:Nl.length=lx+1:=by rw[hNl];exact iH hNle
   clear hNl hDl;obtain⟨dl,hdl⟩:∃dl,dl=dg 4294967296 (y*2 ^ s):=cm
   rw[<-hdl] at hV hVd hDe hVl;obtain⟨lead,hld⟩:∃d,dl[n+1]? = some d:=⟨_,Yz om⟩
   obtain⟨next,hnx⟩:∃d,dl[n]? = some d:=⟨_,Yz om⟩
   have gd1:(bA Dl)[0+((n+1:Nat):Int).toNat]? = some (.int .u32 (lead:Int)):=mU (by rw[hDe,ZR om];exact hld);have gd2:(bA Dl)[0+((n:Nat):Int).toNat]? = some (.int .u32 (next:Int)):=mU (by rw[hDe,ZR om];exact hnx);refine Z ?_;rw[ebl];have hsl:(Nat.ble 0 ((n+2:Nat):Int).toNat && (Nat.ble ((n+2:Nat):Int).toNat (n+2+1) && Nat.ble (n+2+1) (n+2+1)))=true:=by
    rw[Y1,Y2 (aAA _),Y2 om,Y2 (ZA _)];rfl
   have ez:((n+2:Nat):Int).toNat-0=n+2:=by rw[Y1];omega
   have ew1:IntKind.i64.wrap (((n+2:Nat):Int)-1)=((n+1:Nat):Int):=Y'
   have ew2:IntKind.i64.wrap (((n+2:Nat):Int)-2)=((n:Nat):Int):=Y'
   have bb1:=jE (i:=n+1) (n:=n+2) om;have bb2:=jE (i:=n) (n:=n+2) om;have hle2:n+2<=lx:=om;obtain⟨qn,hqn⟩:∃qn,lx+1=(n+2)+qn:=⟨lx+1-(n+2),om⟩
   have ew3:IntKind.i64.wrap (((lx+1:Nat):Int)-((n+2:Nat):Int))=(qn:Int):=Y'
   repeat((first|refine bK ?_|refine aK hsl ?_|rw[ez]);refine Z ?_)
   repeat((first|rw[ew1]|rw[ew2]|refine aK bb1 ?_|refine aK bb2 ?_|refine aC gd1 ?_|refine aC gd2 ?_|refine bK ?_);refine Z ?_)
   rw[ew3];refine aK gw ?_;refine Z ?_;have ew4:IntKind.i64.wrap ((qn:Int)-1)=(qn:Int)-1:=bF oq;repeat((first|rw[ew3]|rw[ew4]|refine bK ?_);refine Z ?_)
   obtain⟨V,hVe⟩:∃V,V=y*2 ^ s:=cm
   obtain⟨X,hXe⟩:∃X,X=x*2 ^ s:=cm
   rw[<-hVe] at hV v1 v2 hdl;rw[<-hXe] at hNv;have hfin:=λQ R=>Kw (x:=x) (y:=y) (p:=2 ^ s) (aAq H') Q R
   rw[<-hVe,<-hXe] at hfin;have hX0:X<V*4294967296 ^ qn:=by
    have h1:=fI (n:=x) hB;rw[<-hlx] at h1;have h2:2 ^ s<=2147483648:=by rw[show 2147483648=2 ^ 31 by decide];exact Zo H' om
    have h3:X<4294967296 ^ lx*2147483648:=by rw[hXe];exact Z3 (aA8 h1 (aAq H')) (Zq _ h2)
    have h4:2147483648*4294967296 ^ (n+1)*4294967296 ^ qn<=V*4294967296 ^ qn:=ZI _ v1;rw[Nat.mul_assoc,<-Nat.pow_add,show n+1+qn=lx by omega,ZV] at h4;exact Z3 h3 h4
   have hldB:lead<4294967296:=hVd _ (Y5 hld);have hnxB:next<4294967296:=hVd _ (Y5 hnx)
   have hdd:=hVd;obtain⟨w1,w2⟩:=RP hB hVl hdd hnx hld;rw[hV] at w1 w2;have hhalf:=Mr v1 w2 hnxB;have hV0:0<V:=by rw[hVe];exact aAK hy0 (aAq H')
   have hVlen:(dg 4294967296 V).length<=n+2:=by rw[<-hdl,hVl];omega
   have hDe':=hDe;clear hVd hDe hu gu hlz hsx hsy v1 hw hlen hge;refine bJ.at bI (λp:Nat × List Nat × List Nat=>Yi qn lx V X p.1 p.2.1 p.2.2)
    (λp=>⟨[(8,.int .i64 s),(9,.ptr 0 0 0),(11,.ptr 1 0 0),(12,.int .u64 lead),(13,.int .u64 next),(14,.ptr 3 0 0),(15,.fn (.func 180) [] [.ptr 0 0 0,.ptr 1 0 0,.ptr 2 0 0,.ptr 3 0 0]),(16,.int .i64 ((p.1:Int)-1))],Qh (n+2) (lx+1) qn dl p.2.1 (lV p.1 p.2.2),6,153⟩)
    (λp=>p.1) (qn,Nl,[]) [(9,0),(15,1),(10,2),(31,3),(13,4),(30,5)] ⟨sq,hNlen,hNd,sq,sq,by simp only[vl];rw[hNv];omega,by simp only;rw[hNv];exact hX0⟩
    (aH _ rfl ⟨⟨9,_,rfl,rfl,cX rfl rfl⟩,aF 15 (kR _ _),⟨10,_,rfl,rfl,.cons (.one rfl rfl (.fz' (id:=14) rfl rfl (by rw[aT,hDe',ZB,hVl];simp) (by rw[hDe',ZP,ZT,Ht,aAk (by rw[aT,hVl];omega),ZD (by rw[aT,hVl];omega)]) (aO _))) .nil⟩,⟨31,_,rfl,rfl,cX rfl (Y1 _)⟩,aF 13 (aO _),⟨30,_,rfl,rfl,.eq (aO _) (by rw[Y1];simp[lV,yT])⟩,trivial⟩
     ⟨aG,aM,aM,⟨_,rfl,.int (iT om)⟩,⟨_,rfl,.int (iT om)⟩,aM,⟨_,rfl,(.fn _ _ _ _ _ rfl rfl sq (iS.cons (.ptr 9 0 0 0 rfl) (.cons (.ptr 15 1 0 0 rfl) (.cons (.ptr 10 2 0 0 rfl) (.cons (.ptr 31 3 0 0 rfl) .nil)))).2)⟩,dz,trivial⟩) ?_
   rintro⟨m,N,R⟩ ⟨k1,k2,k3,k4,k5,k6,k7⟩;simp only at k1 k2 k3 k4 k5 k6 k7 |-;refine Z ?_;refine aL (λhb=>?_) (λhb=>?_)
   .have hm1:0<m:=by simp at hb;omega
    obtain⟨j,rfl⟩:∃j,m=j+1:=⟨m-1,om⟩
    rw[show (((j+1:Nat):Int)-1)=(j:Int) by omega];obtain⟨sv1,sv2,sv3⟩:=Un hB k3 om v2 k7;obtain⟨u2,hu2⟩:∃d,N[j+(n+2)]? = some d:=⟨_,Yz om⟩
    obtain⟨u1,hu1⟩:∃d,N[j+(n+1)]? = some d:=⟨_,Yz om⟩
    obtain⟨u0,hu0⟩:∃d,N[j+n]? = some d:=⟨_,Yz om⟩
    have hu2B:=k3 _ (Y5 hu2);have hu1B:=k3 _ (Y5 hu1);have hu0B:=k3 _ (Y5 hu0);have hsl3:((N.drop j).take (n+3)).length=n+3:=by rw[ZQ,aAg];omega
    obtain⟨q1,q2⟩:=S5 hB hsl3 (λd hd=>k3 d (Zn (Ze hd))) (GN hu0 om) (GN hu1 om) (GN hu2 om);obtain⟨U,hU⟩:∃U,U=vl 4294967296 ((N.drop j).take (n+3)):=cm
    rw[<-hU] at sv1 sv3 q1 q2;have hest:Yn 4294967296 (4294967296 ^ n) U V ((u2*4294967296+u1)*4294967296+u0) (lead*4294967296+next) (u2*4294967296+u1) lead next u0:=
     ⟨hB,aAq H',q1,q2,w1,w2,rfl,rfl,hu0B,hnxB,hldB,hhalf,sv3⟩
    have hst:=λ(q:Nat) (hq:q<4294967296) (up:U<(q+1)*V) (hqv:q*V<=U+V)=>
     RI N (lV (j+1) R) dl j (n+2) q V U (lx+1) qn hVlen hVl hdd hV k3 k2 om om (by simp[lV];omega) om hq hU up hqv
    rw[C5] at hst;have hnext:=RO (B:=4294967296) hB (S:=dY (dg 4294967296 (U%V)) (n+3)) (j:=j) (n:=n) (V:=V) (U:=U) k3 om
     (iH (Zk (cU hB (aAE (Zr U hV0))) om)) (by rw[Ce,fM hB]) hV0 sv1 sv2 k6
    have hqB:U/V<4294967296:=S4 sv3;have hei:=P4 hest;have htop:=GG hest;have hnew:Yi qn lx V X j (gK N (dY (dg 4294967296 (U%V)) (n+2+1)) j) (U/V::R):=by
     have hpl:(dY (dg 4294967296 (U%V)) (n+2+1)).length=n+3:=iH (Zk (cU hB (aAE (Zr U hV0))) om);refine⟨om,by rw[Hc (by rw[hpl,k2];omega)];exact k2,IV k3 (λz hz=>?_),by simp only[ZZ];omega,λz hz=>?_, ?_, ?_⟩
     .rcases ZO.1 hz with h|h
      .exact eJ hB _ z h
      .rw[aAw h];decide
     .rcases ZC.1 hz with rfl|hz
      .exact hqB
      .exact k5 z hz
     .exact hnext.1
     .exact hnext.2
    clear hnext k6 k7 sv1 sv2 sv3 q1 q2 w1 w2 v2 hX0 hfin hNv hU hV hNd hNlen hdd hVlen k5 hqB;have x1:IntKind.i64.wrap ((j:Int)+((n+2:Nat):Int))=((j+(n+2):Nat):Int):=Y'
    have x2:IntKind.i64.wrap (((j+(n+2):Nat):Int)-1)=((j+(n+1):Nat):Int):=Y'
    have x3:IntKind.i64.wrap (((j+(n+2):Nat):Int)-2)=((j+n:Nat):Int):=Y'
    have b2:=jE (i:=j+(n+2)) (n:=lx+1) om;have b1:=jE (i:=j+(n+1)) (n:=lx+1) om;have b0:=jE (i:=j+n) (n:=lx+1) om;have g2:=mU hu2;have g1:=mU hu1;have g0:=mU hu0;have y1:IntKind.u64.wrap (u1:Int)=(u1:Int):=iT om;have y2:IntKind.u64.wrap (u2:Int)=(u2:Int):=iT om;have y0:IntKind.u64.wrap (u0:Int)=(u0:Int):=iT om;have y3:bits BinOp.or IntKind.u64 (IntKind.u64.wrap ((u2:Int)*2 ^ min (Int.toNat 32) IntKind.u64.bits)) (u1:Int)=((u2*4294967296+u1:Nat):Int):=Ke hu2B hu1B;obtain⟨tp,htp⟩:∃tp,tp=u2*4294967296+u1:=cm
    rw[<-htp] at y3 hest hei htop;have hld0:(!decide ((lead:Int)=0))=true:=B'
    have htpB:tp<18446744073709551616:=om;have y4:IntKind.u64.wrap ((tp:Int).tdiv (lead:Int))=((tp/lead:Nat):Int):=by rw[kJ];exact iT (aAc (aAu _ _) htpB)
    have y5:IntKind.u64.wrap ((tp:Int).tmod (lead:Int))=((tp%lead:Nat):Int):=by rw[n6];exact iT (aAc (Nat.mod_le _ _) htpB)
    refine Z ?_;repeat((first|rw[x1]|rw[x2]|refine aK b2 ?_|refine aC g2 ?_|refine aK b1 ?_|refine aC g1 ?_|refine bK ?_);refine Z ?_)
    rw[y2,y1,y3];repeat((first|refine aK hld0 ?_|rw[y4]|rw[y5]|refine bK ?_);refine Z ?_)
    have y6:(tp:Int).tmod (lead:Int)=((tp%lead:Nat):Int):=n6 tp lead;generalize tp/lead=d0 at *;generalize tp%lead=r0 at *;refine bJ.at bI (λp:Nat × Nat=>Q4 4294967296 U V tp lead p.1 p.2)
     (λp=>⟨[(8,.int .i64 s),(9,.ptr 0 0 0),(11,.ptr 1 0 0),(12,.int .u64 lead),(13,.int .u64 next),(14,.ptr 3 0 0),(15,.fn (.func 180) [] [.ptr 0 0 0,.ptr 1 0 0,.ptr 2 0 0,.ptr 3 0 0]),(16,.int .i64 j),(18,.int .u64 (p.1:Int)),(19,.int .u64 (p.2:Int))],Qh (n+2) (lx+1) qn dl N (lV (j+1) R),6,153⟩)
     (λp=>p.1) (d0,r0) [(0,0),(1,1),(2,2),(3,3),(4,4),(5,5)] hei
     (aH _ rfl ⟨cq,aF 1 (kR _ _),gd,bt,aF 4 (aO _),aF 5 (aO _),trivial⟩
      ⟨aG,aM,aM,aG,aG,aM,X',aG,aG,⟨_,rfl,.int y6⟩,trivial⟩) ?_
    rintro⟨d,r⟩ hI;simp only at hI |-;have hs1:((d:Int).fdiv (2 ^ min (Int.toNat 32) IntKind.u64.bits))=((d/4294967296:Nat):Int):=B8;refine Z ?_;rw[hs1];by_cases hdB:d<4294967296
    .rw[aAh hdB];have m1:d*next<=4294967295*4294967295:=Z7 om om
     have z5:IntKind.u64.wrap ((d:Int)*(next:Int))=((d*next:Nat):Int):=by rw[<-Int.natCast_mul];exact iT om
     have z6:bits BinOp.or IntKind.u64 (IntKind.u64.wrap ((r:Int)*2 ^ min (Int.toNat 32) IntKind.u64.bits)) (u0:Int)=((r*4294967296+u0:Nat):Int):=Ke hI.rB hu0B;have g0':=g0;have y0':=y0;generalize hrZ:(r:Int)=rZ at z6 |-;generalize hnZ:(next:Int)=nZ at z5 |-;generalize huZ:(u0:Int)=uZ at z6 y0' g0' |-;generalize hdZ:(d:Int)=dZ at z5 |-;((conv=>whnf);repeat((first|refine jL.go ?_|refine eQ.go ?_);conv=>whnf));rw[x1];((conv=>whnf);repeat((first|refine jL.go ?_|refine eQ.go ?_);conv=>whnf));rw[x3];((conv=>whnf);repeat((first|refine jL.go ?_|refine eQ.go ?_);conv=>whnf));refine aK b0 ?_;((conv=>whnf);repeat((first|refine jL.go ?_|refine eQ.go ?_);conv=>whnf));refine aC g0' ?_;((conv=>whnf);repeat((first|refine jL.go ?_|refine eQ.go ?_);conv=>whnf));refine aC g0' ?_
     conv=>whnf
     (first|refine jL.go ?_|refine eQ.go ?_)
     conv=>whnf
     (first|refine jL.go ?_|refine eQ.go ?_)
     conv=>whnf
     (first|refine jL.go ?_|refine eQ.go ?_)
     conv=>whnf
     (first|refine jL.go ?_|refine eQ.go ?_)
     conv=>whnf
     (first|refine jL.go ?_|refine eQ.go ?_)
     conv=>whnf
     rw[y0',z5];generalize IntKind.u64.wrap (rZ*2 ^ min (Int.toNat 32) IntKind.u64.bits)=w1 at z6 |-;rw[z6];subst hrZ hnZ huZ hdZ;obtain⟨E1,hE1⟩:∃e,e=r*4294967296+u0:=cm
     obtain⟨E2,hE2⟩:∃e,e=d*next:=cm
     rw[<-hE1,<-hE2];generalize hcb:decide ((E2:Int)>(E1:Int))=cb;generalize (((0:Nat):Int) != 0)=b0;refine Z ?_;refine aL (λhc=>?_) (λhc=>?_)
     .have hc:r*4294967296+u0<d*next:=by
       rw[hc] at hcb;have:=Zf hcb;rw[hE1,hE2] at this;omega
      have dI:=hI.hi;have rI:=hI.rB;obtain⟨dn1,dn2,dn3⟩:=Ir hest hI (.inr hc);have z1:IntKind.u64.wrap ((d:Int)-1)=((d-1:Nat):Int):=by rw[show (d:Int)-1=((d-1:Nat):Int) by omega];exact iT om
      have z2:IntKind.u64.wrap ((r:Int)+(lead:Int))=((r+lead:Nat):Int):=cf
      have z3:(((r+lead:Nat):Int).fdiv (2 ^ min (Int.toNat 32) IntKind.u64.bits))=(((r+lead)/4294967296:Nat):Int):=B8;refine Z ?_;rw[z1,z2,z3];refine aL (λhc3=>?_) (λhc3=>?_)
      .have hge3:4294967296<=r+lead:=by
        rcases ZL (r+lead) 4294967296 with e|e
        .rw[aAh e] at hc3;simp at hc3
        .exact e
       obtain⟨t1,t2⟩:=IM hest dn2 hge3;refine Z ?_;refine aJ.useN bI [(0,0),(1,1),(2,2),(3,3),(4,4),(5,5)] (hst (d-1) t1 dn3 t2) rfl gn ⟨cq,aF 1 (kR _ _),gd,bt,aF 4 (aO _),aF 5 (aO _),trivial⟩ rfl ?_;rintro r' m' n' ⟨rfl,rfl,rfl⟩;refine⟨[(0,0),(1,1),(2,2),(3,3),(4,4),(5,5)],.tup [],Qh (n+2) (lx+1) qn dl (gK N (dY (dg 4294967296 (U%V)) (n+2+1)) j) (lV j (U/V::R)),6,.same _ nn,⟨cq,aF 1 (kR _ _),gd,bt,aF 4 (aO _),aF 5 (aO _),trivial⟩,rfl, ?_⟩;refine Z ?_;exact .mk (j,gK N (dY (dg 4294967296 (U%V)) (n+2+1)) j,U/V::R) [(0,0),(1,1),(2,2),(3,3),(4,4),(5,5)] hnew
        (aH _ rfl ⟨cq,aF 1 (kR _ _),gd,bt,aF 4 (aO _),aF 5 (aO _),trivial⟩
         ⟨aG,aM,aM,aG,aG,aM,X',ej,trivial⟩) J'
      .have hlt3:r+lead<4294967296:=by
        rcases ZL (r+lead) 4294967296 with e|e
        .exact e
        .exfalso;have:=aB3 e (show 0<4294967296 by decide);simp at hc3;omega
       refine Z ?_;exact .mk (d-1,r+lead) [(0,0),(1,1),(2,2),(3,3),(4,4),(5,5)] ⟨dn2,dn3,by simp only;omega,hlt3⟩
        (aH _ rfl ⟨cq,aF 1 (kR _ _),gd,bt,aF 4 (aO _),aF 5 (aO _),trivial⟩
         ⟨aG,aM,aM,aG,aG,aM,X',aG,aG,aG,trivial⟩) J'
     .have hc:d*next<=r*4294967296+u0:=by
       rw[hc] at hcb;have:=aAa hcb;rw[hE1,hE2] at this;omega
      have t2:=O6 hest hI hdB hc;refine Z ?_;refine aJ.useN bI [(0,0),(1,1),(2,2),(3,3),(4,4),(5,5)] (hst d hdB hI.up t2) rfl gn ⟨cq,aF 1 (kR _ _),gd,bt,aF 4 (aO _),aF 5 (aO _),trivial⟩ rfl ?_;rintro r' m' n' ⟨rfl,rfl,rfl⟩;refine⟨[(0,0),(1,1),(2,2),(3,3),(4,4),(5,5)],.tup [],Qh (n+2) (lx+1) qn dl (gK N (dY (dg 4294967296 (U%V)) (n+2+1)) j) (lV j (U/V::R)),6,.same _ nn,⟨cq,aF 1 (kR _ _),gd,bt,aF 4 (aO _),aF 5 (aO _),trivial⟩,rfl, ?_⟩;refine Z ?_;exact .mk (j,gK N (dY (dg 4294967296 (U%V)) (n+2+1)) j,U/V::R) [(0,0),(1,1),(2,2),(3,3),(4,4),(5,5)] hnew
       (aH _ rfl ⟨cq,aF 1 (kR _ _),gd,bt,aF 4 (aO _),aF 5 (aO _),trivial⟩
        ⟨aG,aM,aM,aG,aG,aM,X',ej,trivial⟩) J'
    .rw[show (((d/4294967296:Nat):Int) != 0)=true by have:=aB3 (Nat.le_of_not_lt hdB) (show 0<4294967296 by decide);simp;omega];refine Z ?_;have dI:=hI.hi;have rI:=hI.rB;obtain⟨dn1,dn2,dn3⟩:=Ir hest hI (.inl (Nat.le_of_not_lt hdB));have z1:IntKind.u64.wrap ((d:Int)-1)=((d-1:Nat):Int):=by rw[show (d:Int)-1=((d-1:Nat):Int) by omega];exact iT om
     have z2:IntKind.u64.wrap ((r:Int)+(lead:Int))=((r+lead:Nat):Int):=cf
     have z3:(((r+lead:Nat):Int).fdiv (2 ^ min (Int.toNat 32) IntKind.u64.bits))=(((r+lead)/4294967296:Nat):Int):=B8;refine Z ?_;rw[z1,z2,z3];refine aL (λhc3=>?_) (λhc3=>?_)
     .have hge3:4294967296<=r+lead:=by
       rcases ZL (r+lead) 4294967296 with e|e
       .rw[aAh e] at hc3;simp at hc3
       .exact e
      obtain⟨t1,t2⟩:=IM hest dn2 hge3;refine Z ?_;refine aJ.useN bI [(0,0),(1,1),(2,2),(3,3),(4,4),(5,5)] (hst (d-1) t1 dn3 t2) rfl gn ⟨cq,aF 1 (kR _ _),gd,bt,aF 4 (aO _),aF 5 (aO _),trivial⟩ rfl ?_;rintro r' m' n' ⟨rfl,rfl,rfl⟩;refine⟨[(0,0),(1,1),(2,2),(3,3),(4,4),(5,5)],.tup [],Qh (n+2) (lx+1) qn dl (gK N (dY (dg 4294967296 (U%V)) (n+2+1)) j) (lV j (U/V::R)),6,.same _ nn,⟨cq,aF 1 (kR _ _),gd,bt,aF 4 (aO _),aF 5 (aO _),trivial⟩,rfl, ?_⟩;refine Z ?_;exact .mk (j,gK N (dY (dg 4294967296 (U%V)) (n+2+1)) j,U/V::R) [(0,0),(1,1),(2,2),(3,3),(4,4),(5,5)] hnew
       (aH _ rfl ⟨cq,aF 1 (kR _ _),gd,bt,aF 4 (aO _),aF 5 (aO _),trivial⟩
        ⟨aG,aM,aM,aG,aG,aM,X',ej,trivial⟩) J'
     .have hlt3:r+lead<4294967296:=by
       rcases ZL (r+lead) 4294967296 with e|e
       .exact e
       .exfalso;have:=aB3 e (show 0<4294967296 by decide);simp at hc3;omega
      refine Z ?_;exact .mk (d-1,r+lead) [(0,0),(1,1),(2,2),(3,3),(4,4),(5,5)] ⟨dn2,dn3,by simp only;omega,hlt3⟩
       (aH _ rfl ⟨cq,aF 1 (kR _ _),gd,bt,aF 4 (aO _),aF 5 (aO _),trivial⟩
        ⟨aG,aM,aM,aG,aG,aM,X',aG,aG,aG,trivial⟩) J'
   .have hm0:m=0:=by simp at hb;omega
    subst hm0;rw[Nat.pow_zero,aAL] at k6 k7;obtain⟨z1,z2⟩:=hfin (vl 4294967296 R) (vl 4294967296 N) k6 k7;have hvN:vl 4294967296 (N.take (n+2))=vl 4294967296 N:=by
     have e1:=oX 4294967296 N (n+2) om;have hz:vl 4294967296 (N.drop (n+2))=0:=by
      rcases ZF (vl 4294967296 (N.drop (n+2))) with e|e
      .exact e
      .exfalso;have h1:4294967296 ^ (n+2)*1<=4294967296 ^ (n+2)*vl 4294967296 (N.drop (n+2)):=Zq _ e;generalize 4294967296 ^ (n+2)*vl 4294967296 (N.drop (n+2))=P at *;have h2:V<4294967296 ^ (n+2):=v2;generalize 4294967296 ^ (n+2)=W at *;clear w1 w2 hX0;omega
     rw[hz,aAy,Zs] at e1;exact e1.symm
    have hlow:=QU N (n+2) s s1 om om k3;rw[hvN,z2] at hlow;have hz1:eB R=dg 4294967296 (x/y):=by rw[jO hB R k5,z1]
    have hsl2:(Nat.ble 0 ((n+2:Nat):Int).toNat && (Nat.ble ((n+2:Nat):Int).toNat (lx+1) && Nat.ble (lx+1) (lx+1)))=true:=by
     rw[Y1,Y2 (aAA _),Y2 om,Y2 (ZA _)];rfl
    clear w1 w2 hX0 k6 k7 v2 hfin;refine Z ?_;refine aK hsl2 ?_;refine Z ?_;repeat((first|refine bK ?_|refine aK hsl2 ?_|rw[ez]);refine Z ?_)
    have hR0:lV 0 R=R:=by simp[lV]
    rw[hR0];refine aJ.pre bI [(0,0),(1,1),(2,2),(3,3),(4,4)] (mem':=[(0,.row 30 1 [.sl 4 0 (lx+1)]),(1,.row 3 1 [.int .i64 ((n+2:Nat):Int)]),(2,.row 30 1 [.il 1 (bA dl)]),(3,.row 30 1 [.il 1 (bA R)]),(4,.row 157 1 (bA N))]) rfl
     ⟨cq,aF 1 (kR _ _),gd,⟨3,_,rfl,rfl,.cons (.one rfl rfl (.fz' (id:=5) rfl rfl (by rw[aT,k4];omega) (by rw[ZT,ZD (by rw[aT,k4];omega)]) (aO _))) .nil⟩,aF 4 (aO _),trivial⟩
     (.cons (.fz' (id:=5) (ys:=bA R) rfl rfl (by rw[aT,k4];omega) (by rw[ZT,ZD (by rw[aT,k4];omega)]) (aO _)) .nil) ?_
    refine(xL R om).go ?_ (.cons (.il' (aO _)) .nil) (.il' (aO _));rw[hz1];refine Z ?_;repeat((first|refine bK ?_|refine aK hsl2 ?_|rw[ez]);refine Z ?_)
    obtain⟨rz,hRr⟩:∃rz,rz=dY (dg 4294967296 (x%y)) (n+2)++N.drop (n+2):=cm
    rw[<-hRr] at hlow;refine aJ.useN bI [(4,0)] hlow rfl (.cons (.sl 4 0 0 _ rfl) ax) ⟨aF 4 (aO _),trivial⟩ rfl ?_;rintro r' m' n' ⟨rfl,rfl,rfl⟩;refine⟨[(0,4)],.sl 4 0 (n+2),[(4,.row 157 1 (bA rz))],16,.sl 0 4 0 _ rfl,dt,rfl, ?_⟩;refine Z ?_;repeat((first|refine bK ?_|refine aK hsl2 ?_|rw[ez]);refine Z ?_)
    have hpl:(dY (dg 4294967296 (x%y)) (n+2)).length=n+2:=iH (Zk (cU hB (aAE (Zr x hy0))) om);have hRl:rz.length=lx+1:=by rw[hRr,ZB,hpl,aAg,k2];omega
    have hRt:rz.take (n+2)=dY (dg 4294967296 (x%y)) (n+2):=by rw[hRr,aAk om,ZD om]
    have hto:=Uo rz (n+2) om om;have hpx:=AE (rz.take (n+2));rw[hRt,zE] at hto hpx;have hln:(dg 4294967296 (x%y)).length<=n+2:=Zk (cU hB (aAE (Zr x hy0))) om;rw[<-hRt,aBb,Z5 hln] at hpx;generalize dg 4294967296 (x%y)=rl at *;refine aJ.useN bI [(4,0)] hto rfl (.cons (.sl 4 0 0 _ rfl) .nil) ⟨aF 4 (aO _),trivial⟩ rfl ?_;rintro r' m' n' ⟨rfl,rfl,rfl⟩;refine⟨[(0,4)],.sl 4 0 rl.length,[(4,.row 157 1 (bA rz))],17,.sl 0 4 0 _ rfl,dt,rfl, ?_⟩;refine Z ?_;repeat((first|refine bK ?_|refine aK hsl2 ?_|rw[ez]);refine Z ?_)
    exact cN (r':=.tup [.il 1 (bA (dg 4294967296 (x/y))),.il 1 (bA rl)]) (.tup' (.cons (.same _ (.il' (aO _))) (.cons (.fz' (id:=4) rfl rfl (by rw[aT];omega) (by rw[ZT,Me,<-hpx]) (aO _)) .nil))) C' 
theorem tB(b:Bool):NN (.bool b):=.bool b
theorem tU(l:List Nat):NN (.il 1 (bA l)):=.il' (aO l)
theorem KE(n:Nat):eB (dg 4294967296 n)=dg 4294967296 n:=by
 have hB:(2:Nat)<=4294967296:=H'
 rw[jO hB _ (eJ hB n),fM hB]
theorem wB(neg:Bool)(n:Nat):gC (sg neg n) = .agg [.bool (neg && decide (0<n)),.il 1 (bA (dg 4294967296 n))]:=by
 unfold gC;rw[Du,OZ]
theorem yP(neg:Bool)(n:Nat)(hn:(dg 4294967296 n).length<=4294967296):aU prog [] 115 [.bool neg,.il 1 (bA (dg 4294967296 n))] (gC (sg neg n)):=by
 have ht:=xL (dg 4294967296 n) hn;rw[KE] at ht;have hw:=CR (sg neg n);have hz:=fL (B:=4294967296) (n:=n) H';rw[wB] at hw |-;generalize dg 4294967296 n=l at *;refine aD bI func115 rfl ?_;refine Z ?_;refine ht.go ?_ ba (tU _);have hlz:decide (((bA l).length:Int)>0)=decide (0<n):=by
  rw[aT,<-hz,Zg];omega
 cases neg with
 | false=>
  refine Rt ?_;exact aA hw C'
 | true=>
  refine Z ?_;rw[hlz];refine Rs ?_;exact aA hw C' 
theorem LS:gC 0 = .agg [.bool false,.il 1 []]:=by simp[gC,eA,bA]
def CH(z:Int):AV:=if eY z=true then .tup [gC z,.int .i64 0] else .tup [gC 0,.int .i64 4]
theorem Cf(z:Int):NN (CH z):=by
 unfold CH;split
 .exact .tup' (.cons (CR _) G')
 .exact .tup' (.cons (CR _) G')
theorem Qx(neg:Bool)(n:Nat)(hn:(dg 4294967296 n).length<=4294967296):aU prog [] 242 [.bool neg,.il 1 (bA (dg 4294967296 n))] (CH (sg neg n)):=by
 have hm:=yP neg n hn;have hw:=CR (sg neg n);have hr:=Cf (sg neg n);have hf:eY (sg neg n)=decide ((dg 4294967296 n).length<=512):=by have:=@Cj (sg neg n);rw[Du] at this;exact this
 rw[wB] at hm hw;have hR:CH (sg neg n)=if eY (sg neg n)=true then .tup [.agg [.bool (neg && decide (0<n)),.il 1 (bA (dg 4294967296 n))],.int .i64 0] else .tup [.agg [.bool false,.il 1 []],.int .i64 4]:=by rw[<-wB,<-LS];rfl
 rw[hR] at hr |-;refine aD bI func242 rfl ?_;refine Z ?_;refine hm.go ?_ gf hw;refine Z ?_;rw[aT];refine aL (λhb=>?_) (λhb=>?_)
 .have hb:¬eY (sg neg n)=true:=by
   rw[hf];simp at hb;simp;omega
  rw[Y3 hb] at hr |-;refine Z ?_;exact cN (r':=.tup [.agg [.bool false,.il 1 []],.int .i64 4]) (.tup' (.cons (.agg' (.cons (.same _ (tB _)) (.cons (.nil 1) .nil))) ax)) C'
 .have hb:eY (sg neg n)=true:=by
   rw[hf];simp at hb;simp;omega
  rw[Y7 hb] at hr |-;refine Rt ?_;exact aA hr C' 
theorem iD(x:Int):gC x = .agg [.bool (decide (x<0)),.il 1 (bA (dg 4294967296 x.natAbs))]:=rfl
theorem UC(x:Int):sg (!decide (x<0)) x.natAbs = -x:=by
 unfold sg;by_cases h:x<0
 .simp[h];omega
 .simp[h];omega
theorem Oo(x y:Int):sg (decide (x<0) != decide (y<0)) (x.natAbs*y.natAbs)=x*y:=by
 have ex:=Hs x;have ey:=Hs y
 conv=>rhs;rw[<-ex,<-ey]
 generalize decide (x<0)=a;generalize decide (y<0)=b;cases a<;>cases b<;>simp[sg,Int.neg_mul,aBM]
theorem eD(b:Bool)(l:List Nat):NN (.agg [.bool b,.il 1 (bA l)]):=.agg' gf 
theorem W9(x:Int)(hx:(dg 4294967296 x.natAbs).length<=1000000):aU prog [] 240 [gC x] (gC (-x)):=by
 have hm:=yP (!decide (x<0)) x.natAbs om;rw[UC,iD (-x)] at hm;rw[iD x,iD (-x)];generalize decide (-x<0)=b2 at *;generalize dg 4294967296 (-x).natAbs=a2 at *;generalize dg 4294967296 x.natAbs=a at *;generalize decide (x<0)=b at *;refine aD bI func240 rfl ?_;refine Z ?_;refine hm.go ?_ gf (eD _ _);refine Rt ?_;exact aA (eD _ _) C' 
theorem UD(x y:Int)(hx:(dg 4294967296 x.natAbs).length<=1000000)(hy:(dg 4294967296 y.natAbs).length<=1000000):aU prog [] 198 [gC x,gC y] (gC (Nat.gcd x.natAbs y.natAbs:Nat)):=by
 have hB:(2:Nat)<=4294967296:=H'
 rw[iD x,iD y];generalize decide (x<0)=bx;generalize decide (y<0)=by_;generalize x.natAbs=a at *;generalize y.natAbs=b at *;obtain⟨g,hg⟩:∃g,g=Nat.gcd a b:=cm
 rw[<-hg];refine aD bI func198 rfl ?_;refine Rt ?_;refine bJ.at bI (λp:Nat × Nat=>(dg 4294967296 p.1).length<=1000000/\(dg 4294967296 p.2).length<=1000000/\Nat.gcd p.1 p.2=g)
  (λp=>⟨[(4,.ptr 0 0 0),(5,.il 1 (bA (dg 4294967296 p.1))),(6,.il 1 (bA (dg 4294967296 p.2)))],[(0,.row 32 2 [.agg [.bool false,.nsl]])],1,26⟩)
  (λp=>p.2) (a,b) [(2,0)] ⟨hx,hy,hg.symm⟩
  (aH _ rfl ⟨aF 2 (.cons (.agg' (.cons (tB _) (.cons .nsl .nil))) .nil),trivial⟩ ⟨aM,aP (tU _),aP (tU _),trivial⟩) ?_
 rintro⟨u,v⟩ ⟨h1,h2,h3⟩;simp only at h1 h2 h3 |-;have hz:=fL (B:=4294967296) (n:=v) hB;have hlz:decide (((bA (dg 4294967296 v)).length:Int)>0)=decide (0<v):=by
  rw[aT,<-hz,Zg];omega
 by_cases hv:0<v
 .have hd:=LC u v hv h1 h2;have hm:=CN hB u v;have hmlt:=Zr u hv;have hgs:=H9 u v;generalize u%v=w at *;generalize dg 4294967296 (u/v)=qq at *;generalize hlu:dg 4294967296 u=lu at *;generalize hlv:dg 4294967296 v=lv at *;generalize hlw:dg 4294967296 w=lw at *;refine Z ?_;rw[hlz,Y8 hv];refine Z ?_;refine hd.go ?_ (.cons (tU _) ba) (.tup' (.cons (tU _) ba));refine Z ?_;exact .mk (v,w) [(0,0)] ⟨by simp only;rw[hlv];exact h2,by simp only;rw[hlw];omega,by simp only;rw[hgs];exact h3⟩
   (aH _ rfl ⟨aF 0 (.cons (.agg' (.cons (tB _) (.cons .nsl .nil))) .nil),trivial⟩ ⟨aM,⟨_,rfl,.eq (tU _) (by rw[hlv])⟩,⟨_,rfl,.eq (tU _) (by rw[hlw])⟩,trivial⟩) J'
 .have hv0:v=0:=om;have hm:=yP false u om;rw[wB] at hm;rw[hv0,Nat.gcd_zero_right] at h3;have hsg:gC ((g:Nat):Int) = .agg [.bool (false && decide (0<u)),.il 1 (bA (dg 4294967296 u))]:=by
   rw[<-h3,<-wB];rfl
  rw[hsg];generalize decide (0<u)=du at *;generalize dg 4294967296 u=lu at *;generalize dg 4294967296 v=lv at *;refine Z ?_;rw[hlz,ZG hv];refine Z ?_;refine hm.go ?_ gf (eD _ _);refine Rt ?_;exact aA (eD _ _) C' 
theorem Ow(z:Int):∃(b:Bool) (l:List Nat) (e:Int),CH z = .tup [.agg [.bool b,.il 1 (bA l)],.int .i64 e]:=by
 unfold CH;split
 .exact⟨_,_,_,rfl⟩
 .exact⟨_,_,_,rfl⟩
theorem TK(x y:Int)(hx:(dg 4294967296 x.natAbs).length<=1000000)(hy:(dg 4294967296 y.natAbs).length<=1000000):aU prog [] 205 [gC x,gC y] (CH (x*y)):=by
 have hm:=Xk x.natAbs y.natAbs hx hy;have hr:=Qx (decide (x<0) != decide (y<0)) (x.natAbs*y.natAbs) (by have:=qT (B:=4294967296) H' x.natAbs y.natAbs;omega);rw[Oo] at hr;obtain⟨b,l,e,he⟩:=Ow (x*y);rw[he] at hr |-;rw[iD x,iD y];generalize dg 4294967296 (x.natAbs*y.natAbs)=ab at *;generalize dg 4294967296 x.natAbs=a1 at *;generalize dg 4294967296 y.natAbs=a2 at *;generalize decide (x<0)=b1 at *;generalize decide (y<0)=b2 at *;refine aD bI func205 rfl ?_;refine Rt ?_;refine hm.go ?_ (.cons (tU _) ba) (tU _);refine Rt ?_;refine hr.go ?_ gf (.tup' (.cons (eD _ _) G'));refine Rt ?_;exact aA (.tup' (.cons (eD _ _) G')) C' 
theorem RC{x y:Int}:fJ x y=if decide (x<0)=true/\decide (y<0)=true then fJ (y.natAbs:Int) (x.natAbs:Int) else if decide (x<0)=true then -1 else if decide (y<0)=true then 1 else fJ (x.natAbs:Int) (y.natAbs:Int):=by
 by_cases h1:x<0<;>by_cases h2:y<0
 .rw[Y7 ⟨Y8 h1,Y8 h2⟩];unfold fJ;split<;>split<;>(try split)<;>(try split)<;>omega
 .rw[Y3 (by rw[ZG h2];simp),Y7 (Y8 h1)];unfold fJ;rw[Y7 om]
 .rw[Y3 (by rw[ZG h1];simp),Y3 (by rw[ZG h1];simp),Y7 (Y8 h2)];unfold fJ;rw[Y3 om,Y7 om]
 .rw[Y3 (by rw[ZG h1];simp),Y3 (by rw[ZG h1];simp),Y3 (by rw[ZG h2];simp)];unfold fJ;split<;>split<;>(try split)<;>(try split)<;>omega
theorem Iu(x y:Int)(hx:(dg 4294967296 x.natAbs).length<=1000000)(hy:(dg 4294967296 y.natAbs).length<=1000000):aU prog [] 52 [gC x,gC y] (.int .i64 (fJ x y)):=by
 have h1:=UY x.natAbs y.natAbs om;have h2:=UY y.natAbs x.natAbs om;rw[RC (x:=x) (y:=y),iD x,iD y];generalize fJ (x.natAbs:Int) (y.natAbs:Int)=c1 at *;generalize fJ (y.natAbs:Int) (x.natAbs:Int)=c2 at *;generalize dg 4294967296 x.natAbs=a1 at *;generalize dg 4294967296 y.natAbs=a2 at *;generalize decide (x<0)=b1 at *;generalize decide (y<0)=b2 at *;refine aD bI func52 rfl ?_;cases b1<;>cases b2
 .refine Z ?_;refine h1.go ?_ (.cons (tU _) ba) nn;refine Z ?_;exact aA nn C'
 .refine Z ?_;exact aA nn C'
 .refine Z ?_;exact aA nn C'
 .refine Z ?_;refine h2.go ?_ (.cons (tU _) ba) nn;refine Z ?_;exact aA nn C' 
theorem Ts(x:Int)(hx:(dg 4294967296 x.natAbs).length<=1000000):aU prog [] 53 [gC x] (.int .i64 (fJ x 0)):=by
 have hc:=Iu x 0 hx (by rw[Int.natAbs_zero,eA];simp);rw[LS,iD x] at hc;rw[iD x];generalize dg 4294967296 x.natAbs=a1 at *;generalize decide (x<0)=b1 at *;refine aD bI func53 rfl ?_;refine Z ?_;refine aJ.pre bI [] (mem':=[]) rfl trivial (.cons (.same _ (eD _ _)) (.cons (.agg' (.cons (.same _ (tB _)) (.cons (.nil 1) .nil))) .nil)) ?_;refine hc.go ?_ (.cons (eD _ _) (.cons (eD _ []) .nil)) nn;refine Z ?_;exact aA nn C' 
theorem DP{x y q r:Int}(hy:y≠0)(h:r+y*q=x)(h0:0<=r)(h1:r<y.natAbs):x/y=q/\x%y=r:=by
 rcases aB9 y 0 with hn|hn
 .obtain⟨b,rfl⟩:∃b,y = -b:=⟨-y,om⟩
  have:=(Int.ediv_emod_unique (a:=x) (b:=b) (r:=r) (q:=-q) om).2 ⟨by rw[aBM,<-Int.neg_mul];exact h,h0,om⟩;rw[Int.ediv_neg,Int.emod_neg,this.1,this.2];exact⟨om,rfl⟩
 .exact(Int.ediv_emod_unique om).2 ⟨h,h0,om⟩
theorem Fc{x y:Int}(hy:y≠0):(decide (x<0)=true/\0<x.natAbs%y.natAbs->x/y=sg (decide (x<0) != decide (y<0)) (x.natAbs/y.natAbs+1)/\x%y=((y.natAbs-x.natAbs%y.natAbs:Nat):Int)) /\
  (¬(decide (x<0)=true/\0<x.natAbs%y.natAbs)->x/y=sg (decide (x<0) != decide (y<0)) (x.natAbs/y.natAbs)/\x%y=((x.natAbs%y.natAbs:Nat):Int)):=by
 have hyp:0<y.natAbs:=aBH.2 hy;have hd:=aBf x.natAbs y.natAbs;have hm:=Zr x.natAbs hyp;have hd2:(y.natAbs:Int)*((x.natAbs/y.natAbs:Nat):Int)+((x.natAbs%y.natAbs:Nat):Int)=(x.natAbs:Int):=by rw[<-Int.natCast_mul,<-Int.natCast_add,hd]
 generalize x.natAbs/y.natAbs=Q at *;generalize x.natAbs%y.natAbs=R at *;constructor
 .rintro⟨h1,h2⟩;have h1:=Zf h1;refine DP hy ?_ om om;rw[Y8 h1];rcases aB9 y 0 with hn|hn
  .rw[Y8 hn];rw[show (y.natAbs:Int) = -y by omega,Int.neg_mul] at hd2;simp only[sg,bne_self_eq_false,aAt,if_false,Int.natCast_add,Int.mul_add,Int.natCast_one,Int.mul_one];generalize y*(Q:Int)=P at *;omega
  .rw[ZG om];rw[show (y.natAbs:Int)=y by omega] at hd2;simp only[sg,Bool.true_bne,Bool.not_false,if_true,Int.natCast_add,aBM,Int.mul_add,Int.natCast_one,Int.mul_one];generalize y*(Q:Int)=P at *;omega
 .intro h;refine DP hy ?_ om om;by_cases h1:x<0
  .have hR:R=0:=by
    rcases ZF R with e|e
    .exact e
    .exact absurd ⟨Y8 h1,e⟩ h
   subst hR;rw[Y8 h1];rcases aB9 y 0 with hn|hn
   .rw[Y8 hn];rw[show (y.natAbs:Int) = -y by omega,Int.neg_mul] at hd2;simp only[sg,bne_self_eq_false,aAt,if_false];generalize y*(Q:Int)=P at *;omega
   .rw[ZG om];rw[show (y.natAbs:Int)=y by omega] at hd2;simp only[sg,Bool.true_bne,Bool.not_false,if_true,aBM];generalize y*(Q:Int)=P at *;omega
  .rw[ZG h1];rcases aB9 y 0 with hn|hn
   .rw[Y8 hn];rw[show (y.natAbs:Int) = -y by omega,Int.neg_mul] at hd2;simp only[sg,Bool.false_bne,if_true,aBM];generalize y*(Q:Int)=P at *;omega
   .rw[ZG om];rw[show (y.natAbs:Int)=y by omega] at hd2;simp only[sg,bne_self_eq_false,aAt,if_false];generalize y*(Q:Int)=P at *;omega
theorem YS(x y:Int)(hy0:y≠0)(hx:(dg 4294967296 x.natAbs).length<=900000)(hy:(dg 4294967296 y.natAbs).length<=900000):aU prog [] 51 [gC x,gC y] (.tup [gC (x/y),gC (x%y),.int .i64 0]):=by
 have hB:(2:Nat)<=4294967296:=H'
 have hyp:0<y.natAbs:=aBH.2 hy0;have hd:=LC x.natAbs y.natAbs hyp om om;have hs:=Fc (x:=x) hy0;have hrl:decide (0<(dg 4294967296 (x.natAbs%y.natAbs)).length)=decide (0<x.natAbs%y.natAbs):=fL hB;have hq1:=xC hB x.natAbs y.natAbs;have hm:=Zr x.natAbs hyp;have hr1:=CN hB x.natAbs y.natAbs;have ha:=Xt (x.natAbs/y.natAbs) 1 om (by rw[kV hB H'];simp[eA]);have hsu:=Xo y.natAbs (x.natAbs%y.natAbs) (aAE hm) om;have hq2:=Lx hB (x.natAbs/y.natAbs) 1;have hr2:=Cd hB y.natAbs (x.natAbs%y.natAbs);have hone:dg 4294967296 1=[1]:=by rw[kV hB H'];simp[eA]
 rw[hone] at ha hq2;have m1:=yP (decide (x<0) != decide (y<0)) (x.natAbs/y.natAbs) om;have m2:=yP (decide (x<0) != decide (y<0)) (x.natAbs/y.natAbs+1) (by simp at hq2;omega);have m3:=yP false (x.natAbs%y.natAbs) om;have m4:=yP false (y.natAbs-x.natAbs%y.natAbs) om;have hyl:∃c cs,dg 4294967296 y.natAbs=c::cs:=⟨_,_,kV hB hyp⟩
 obtain⟨c,cs,hyl⟩:=hyl;have e1:∀n:Nat,sg false n=(n:Int):=λn=>rfl
 rw[e1] at m3 m4;obtain⟨hs1,hs2⟩:=hs;have aq:=iD (x/y);have ar:=iD (x%y);rw[aq,ar,iD x,iD y];rw[hyl] at hd hsu |-;clear hq1 hr1 hq2 hr2 hx hy hm;generalize dg 4294967296 (x.natAbs/y.natAbs)=lq at *;generalize dg 4294967296 (x.natAbs/y.natAbs+1)=lq1 at *;generalize dg 4294967296 (x.natAbs%y.natAbs)=lr at *;generalize dg 4294967296 (y.natAbs-x.natAbs%y.natAbs)=lr1 at *;generalize dg 4294967296 (x/y).natAbs=lz1 at *;generalize dg 4294967296 (x%y).natAbs=lz2 at *;generalize decide (x/y<0)=bz1 at *;generalize decide (x%y<0)=bz2 at *;generalize dg 4294967296 x.natAbs=a1 at *;generalize decide (x<0)=b1 at *;generalize decide (y<0)=b2 at *;have hlen:(bA lr).length=lr.length:=aT lr;refine aD bI func51 rfl ?_;refine Rt ?_;refine hd.go ?_ (.cons (tU _) ba) (.tup' (.cons (tU _) ba));refine Rt ?_;have fin:∀(x y z:Bool) (l m:List Nat),True:=λ_ _ _ _ _=>trivial
 cases b1 with
 | false=>
  obtain⟨q1,q2⟩:=hs2 sq;rw[<-q1,aq] at m1;rw[<-q2,ar] at m3;refine Z ?_;refine m1.go ?_ gf (eD _ _);refine Rt ?_;refine m3.go ?_ gf (eD _ _);refine Rt ?_;exact aA (.tup' (.cons (eD _ _) (.cons (eD _ _) G'))) C'
 | true=>
  cases lr with
  | nil=>
   have h0:¬0<x.natAbs%y.natAbs:=su hrl
   obtain⟨q1,q2⟩:=hs2 (λh=>h0 h.2);rw[<-q1,aq] at m1;rw[<-q2,ar] at m3;refine Z ?_;refine m1.go ?_ gf (eD _ _);refine Rt ?_;refine m3.go ?_ gf (eD _ _);refine Rt ?_;exact aA (.tup' (.cons (eD _ _) (.cons (eD _ _) G'))) C'
  | cons r0 rs=>
   have h0:0<x.natAbs%y.natAbs:=su hrl
   obtain⟨q1,q2⟩:=hs1 ⟨rfl,h0⟩;rw[<-q1,aq] at m2;rw[<-q2,ar] at m4;refine Rt ?_;refine aL (λh=>?_) (λh=>absurd h (by simp[bA]));refine Z ?_;refine aJ.pre bI [(0,0),(1,1),(2,2),(3,3)] (mem':=[(0,.row 32 2 [.agg [.bool true,.il 1 (bA a1)]]),(1,.row 32 2 [.agg [.bool b2,.il 1 (bA (c::cs))]]),(2,.row 32 2 [.agg [.bool false,.nsl]]),(3,.row 32 2 [.agg [.bool false,.nsl]])]) rfl
    ⟨aF 0 M',aF 1 M',aF 2 (.cons (.agg' (.cons (tB _) G')) .nil),aF 3 (.cons (.agg' (.cons (tB _) G')) .nil),trivial⟩
    (.cons (.same _ (tU _)) (.cons (.fz' (id:=4) (off:=0) (len:=1) (xs:=[.int .u32 1]) (ys:=bA [1]) rfl rfl (ZA 1) rfl (aO [1])) .nil)) ?_
   refine ha.go ?_ (.cons (tU _) ba) (tU _);refine Rt ?_;refine hsu.go ?_ (.cons (tU _) ba) (tU _);refine Rt ?_;refine m2.go ?_ gf (eD _ _);refine Rt ?_;refine m4.go ?_ gf (eD _ _);refine Rt ?_;exact aA (.tup' (.cons (eD _ _) (.cons (eD _ _) G'))) C' 
theorem Ve(neg:Bool)(l:List Nat)(hl:l.length<=4294967296):aU prog [] 115 [.bool neg,.il 1 (bA l)] (.agg [.bool (neg && decide (0<(eB l).length)),.il 1 (bA (eB l))]):=by
 have ht:=xL l hl;generalize eB l=z at *;refine aD bI func115 rfl ?_;refine Z ?_;refine ht.go ?_ ba (tU _);have hlz:decide (((bA z).length:Int)>0)=decide (0<z.length):=by
  rw[aT,Zg];omega
 cases neg with
 | false=>
  refine Rt ?_;exact aA (eD _ _) C'
 | true=>
  refine Z ?_;rw[hlz];refine Rs ?_;exact aA (eD _ _) C' 
theorem OL(neg:Bool)(m:Nat)(hm:m<18446744073709551616):eB [m%4294967296,m/4294967296]=dg 4294967296 m/\AV.agg [.bool (neg && decide (0<(eB [m%4294967296,m/4294967296]).length)),.il 1 (bA (eB [m%4294967296,m/4294967296]))]=gC (sg neg m):=by
 have e:eB [m%4294967296,m/4294967296]=dg 4294967296 m:=by
  rw[jO (B:=4294967296) H' _ (by intro d hd;simp at hd;omega)];congr 1;simp[vl];omega
 refine⟨e, ?_⟩;rw[e,wB,fL H']
theorem Id(n:Int)(hn:i64 n):aU prog [] 92 [.int .i64 n] (gC n):=by
 have hn':=hn;obtain⟨hn1,hn2⟩:=hn';have hm:=Ve (decide (n<0)) [n.natAbs%4294967296,n.natAbs/4294967296] sq;have h2:=(OL (decide (n<0)) n.natAbs om).2;rw[h2,Hs] at hm;rw[iD n] at hm |-;generalize dg 4294967296 n.natAbs=l at *;have hM:n.natAbs<18446744073709551616:=om;have x1:IntKind.u32.wrap (n.natAbs:Int)=((n.natAbs%4294967296:Nat):Int):=VA _;have x2:IntKind.u32.wrap ((n.natAbs:Int).fdiv (2 ^ 32))=((n.natAbs/4294967296:Nat):Int):=by rw[B8,JP om]
 have step:∀(X:Int),X=(n.natAbs:Int)->bA [n.natAbs%4294967296,n.natAbs/4294967296]=[AV.int IntKind.u32 (IntKind.u32.wrap X),AV.int IntKind.u32 (IntKind.u32.wrap (X.fdiv (2 ^ 32)))]:=λX hX=>by rw[hX,x1,x2];rfl
 refine aD bI func92 rfl ?_;refine Z ?_;refine aL (λhb=>?_) (λhb=>?_)
 .rw[hb] at hm |-;have hs:=step (IntKind.u64.wrap (0-IntKind.u64.wrap n)) (by have:=Zf hb;rw[kA,kA];omega);refine Z ?_;rw[hb];refine aJ.pre bI [(0,0)] (mem':=[(0,.row 32 2 [.agg [.bool false,.nsl]])]) rfl ⟨aF 0 (.cons (.agg' (.cons (tB _) G')) .nil),trivial⟩
   (.cons (.same _ (tB _)) (.cons (.fz' (id:=1) (off:=0) (len:=2) (ys:=bA [n.natAbs%4294967296,n.natAbs/4294967296]) rfl rfl (ZA 2) hs.symm (aO _)) .nil)) ?_
  refine hm.go ?_ gf (eD _ _);refine Rt ?_;exact aA (eD _ _) C'
 .rw[hb] at hm |-;have hs:=step (IntKind.u64.wrap n) (by have:=aAa hb;rw[kA];omega);generalize IntKind.u64.wrap n=X at *;refine Z ?_;rw[hb];refine aJ.pre bI [(0,0)] (mem':=[(0,.row 32 2 [.agg [.bool false,.nsl]])]) rfl ⟨aF 0 (.cons (.agg' (.cons (tB _) G')) .nil),trivial⟩
   (.cons (.same _ (tB _)) (.cons (.fz' (id:=1) (off:=0) (len:=2) (ys:=bA [n.natAbs%4294967296,n.natAbs/4294967296]) rfl rfl (ZA 2) hs.symm (aO _)) .nil)) ?_
  refine hm.go ?_ gf (eD _ _);refine Rt ?_;exact aA (eD _ _) C' 
theorem wI{l:List Nat}{i:Nat}:vl 10000 (l.take (i+1))=vl 10000 (l.take i)+10000 ^ i*l.getD i 0:=by
 rcases ZL i l.length with h|h
 .have hg:l[i]? = some l[i]:=Yz h;rw[iL hg,Y0,hg];rfl
 .rw[Ea h,Y0,ZJ h];simp
theorem CT{l:List Nat}(h:∀d∈l,d<10000)(i:Nat):l.getD i 0<10000:=by
 rw[Y0];cases hg:l[i]? with
 | none=>simp
 | some d=>exact h _ (Y5 hg)
theorem Nx{s:List Nat}{n:Nat}(hs:∀d∈s,d<10000)(hv:vl 10000 s=n)(hl:s.length=0\/10000 ^ (s.length-1)<=n):s=dg 10000 n:=by
 have h:=j8 hT s hs;rw[hv] at h;have h1:=fI (n:=n) hT;have h2:s.length<=(dg 10000 n).length:=by
  rcases hl with hl|hl
  .omega
  .have:=aAc hl h1;have:=(Nat.pow_lt_pow_iff_right (a:=10000) om).1 this;omega
 rw[h];unfold dY;rw[show s.length-(dg 10000 n).length=0 by omega];simp
theorem W6(x y:Nat)(hx:(dg 10000 x).length<=1000000)(hy:(dg 10000 y).length<=1000000):aU prog [] 222 [.il 1 (bX (dg 10000 x)),.il 1 (bX (dg 10000 y))] (.il 1 (bX (dg 10000 (x+y)))):=by
 have hla:=eJ hT x;have hlb:=eJ hT y;have hva:=fM hT x;have hvb:=fM hT y;have hga:=En hT x;have hgb:=En hT y;have hza:(dg 10000 x).length=0\/0<x:=by
  rcases ZF x with h|h
  .left;rw[h,eA];rfl
  .exact .inr h
 have hzb:(dg 10000 y).length=0\/0<y:=by
  rcases ZF y with h|h
  .left;rw[h,eA];rfl
  .exact .inr h
 obtain⟨S,hS⟩:∃S,S=x+y:=cm
 rw[<-hS];have hsum:vl 10000 (dg 10000 x)+vl 10000 (dg 10000 y)=S:=by rw[hva,hvb,hS]
 generalize dg 10000 x=a at *;generalize dg 10000 y=b at *;have ra:=λi=>Xf a i om
 have rb:=λi=>Xf b i om
 refine aD bI func222 rfl ?_;refine Z ?_;refine bJ.ph 3 1 ?_;refine bJ.at bI (λp:List Nat × Nat=>(∀d∈p.1,d<10000)/\p.2<=1/\vl 10000 p.1+10000 ^ p.1.length*p.2=vl 10000 (a.take p.1.length)+vl 10000 (b.take p.1.length)/\p.1.length<=1000001/\(p.1.length=0\/10000 ^ (p.1.length-1)<=S)/\(a.length+1<=p.1.length/\b.length+1<=p.1.length->p.2=0))
  (λp=>⟨[(0,.il 1 (bX a)),(1,.il 1 (bX b)),(5,.sl 0 0 p.1.length),(6,.int .i64 p.2),(7,.int .i64 p.1.length)],[(0,.row 3 1 (bX p.1))],1,42⟩)
  (λp=>1000002-p.1.length) ([],0) [(0,0)] ⟨sq,sq,by simp[vl],sq,sq,sq⟩
  (aH _ rfl ⟨⟨0,_,rfl,rfl,.nil⟩,trivial⟩ ⟨aP (tD _),aP (tD _),⟨_,rfl,.nslk 0 0 _ rfl rfl⟩,aG,aG,trivial⟩) ?_
 rintro⟨s,c⟩ ⟨h1,h2,h3,h4,h5,h6⟩;simp only at h1 h2 h3 h4 h5 h6 |-;have ra:=ra s.length;have rb:=rb s.length;have hua:=CT hla s.length;have hub:=CT hlb s.length;have hta:=wI (l:=a) (i:=s.length);have htb:=wI (l:=b) (i:=s.length);have hstep:=vI (B:=10000) H' (s:=s) (x:=a.getD s.length 0) (y:=b.getD s.length 0) rfl h3;rw[<-hta,<-htb] at hstep;have hua0:a.length<=s.length->a.getD s.length 0=0:=λh=>by rw[Y0,ZJ h];rfl
 have hub0:b.length<=s.length->b.getD s.length 0=0:=λh=>by rw[Y0,ZJ h];rfl
 generalize a.getD s.length 0=ua at *;generalize b.getD s.length 0=ub at *;have e1:IntKind.i64.wrap ((ua:Int)+(ub:Int))=((ua+ub:Nat):Int):=Y'
 have e2:IntKind.i64.wrap (((ua+ub:Nat):Int)+(c:Int))=((c+(ua+ub):Nat):Int):=Y'
 have e3:(((c+(ua+ub):Nat):Int)).tmod 10000=(((c+(ua+ub))%10000:Nat):Int):=n6 _ 10000;have e4:IntKind.i64.wrap ((((c+(ua+ub):Nat):Int)).tdiv 10000)=(((c+(ua+ub))/10000:Nat):Int):=by
  rw[show (((c+(ua+ub):Nat):Int)).tdiv 10000=(((c+(ua+ub))/10000:Nat):Int) from kJ _ 10000,bF oq]
 have hmd:(c+(ua+ub))%10000<10000:=Zr _ H';have hga0:a.length=0\/10000 ^ (a.length-1)<=x:=by rcases hza with h|h;exact .inl h;exact .inr (hga h)
 have hgb0:b.length=0\/10000 ^ (b.length-1)<=y:=by rcases hzb with h|h;exact .inl h;exact .inr (hgb h)
 have hpow:s.length<a.length\/s.length<b.length\/0<c->10000 ^ s.length<=S:=by
  rintro(h|h|h)
  .have:10000 ^ s.length<=10000 ^ (a.length-1):=Zo om om;omega
  .have:10000 ^ s.length<=10000 ^ (b.length-1):=Zo om om;omega
  .by_cases h7:s.length<a.length
   .have:10000 ^ s.length<=10000 ^ (a.length-1):=Zo om om;omega
   by_cases h8:s.length<b.length
   .have:10000 ^ s.length<=10000 ^ (b.length-1):=Zo om om;omega
   rw[ZD om,ZD om,show c=1 by omega] at h3;omega
 have hz7:a.length<=s.length/\b.length<=s.length->(c+(ua+ub))/10000=0:=λ⟨z1,z2⟩=>by have:=hua0 z1;have:=hub0 z2;omega
 rcases(show (¬s.length<a.length/\¬s.length<b.length/\c=0)\/s.length<a.length\/(¬s.length<a.length/\s.length<b.length)\/(¬s.length<a.length/\¬s.length<b.length/\0<c) by omega) with⟨q1,q2,q3⟩|q1|⟨q1,q2⟩|⟨q1,q2,q3⟩
 .rw[ZD om,ZD om,q3] at h3;have hsS:s=dg 10000 S:=Nx h1 om h5;refine Z ?_;rw[aV,ZG (show ¬(s.length:Int)<(a.length:Int) by omega)];refine Z ?_;rw[aV,ZG (show ¬(s.length:Int)<(b.length:Int) by omega)];refine Z ?_;rw[q3];refine Z ?_;exact bL (r':=.il 1 (bX (dg 10000 S))) (m':=[]) (n':=0) [] rfl trivial (.fzR rfl rfl (.eq (fG _) (by rw[hsS])) (by rw[aV,hsS])) C'
 all_goals have hp10:=hpow om
 all_goals refine Z ?_
 all_goals rw[aV]
 all_goals (first|rw[Y8 (show (s.length:Int)<(a.length:Int) by omega)]|rw[ZG (show ¬(s.length:Int)<(a.length:Int) by omega)])
 all_goals refine Z ?_
 all_goals (first|(rw[aV,Y8 (show (s.length:Int)<(b.length:Int) by omega)];refine Z ?_)|(rw[aV,ZG (show ¬(s.length:Int)<(b.length:Int) by omega)];refine Z ?_)|skip)
 all_goals (first|(rw[Y8 (show (c:Int)>0 by omega)];refine Z ?_)|skip)
 all_goals refine ra.go ?_ (.cons (tD _) G') nn
 all_goals refine Z ?_
 all_goals refine rb.go ?_ (.cons (tD _) G') nn
 all_goals refine Z ?_
 all_goals rw[e1,e2,e3]
 all_goals refine aK (b8 rfl rfl (by rw[aV]) B') ?_
 all_goals refine Z ?_
 all_goals
  exact .mk (s++[(c+(ua+ub))%10000],(c+(ua+ub))/10000) [(2,0)] ⟨f0 h1 hmd,by simp only;omega,by simp only[ZB,ZY];exact hstep,by simp;omega,.inr (su hp10),λh=>by simp at h;exact hz7 om⟩
   (aH _ rfl ⟨⟨2,_,rfl,rfl,.eq (fG _) (by rw[wU];rfl)⟩,trivial⟩ ⟨aP (tD _),aP (tD _),⟨_,rfl,.slE rfl (by simp[aV])⟩,⟨_,rfl,.int e4⟩,Z',trivial⟩) B' 
theorem Gf(x y:Nat)(hxy:y<=x)(hx:(dg 10000 x).length<=1000000):aU prog [] 170 [.il 1 (bX (dg 10000 x)),.il 1 (bX (dg 10000 y))] (.il 1 (bX (dY (dg 10000 (x-y)) (dg 10000 x).length))):=by
 have hla:=eJ hT x;have hlb:=eJ hT y;have hva:=fM hT x;have hvb:=fM hT y;have hlen:(dg 10000 y).length<=(dg 10000 x).length:=cU hT hxy;obtain⟨S,hS⟩:∃S,S=x-y:=cm
 rw[<-hS];have hsum:vl 10000 (dg 10000 x)=S+vl 10000 (dg 10000 y):=by rw[hva,hvb,hS];omega
 generalize dg 10000 x=a at *;generalize dg 10000 y=b at *;have ra:=λi=>Xf a i om
 have rb:=λi=>Xf b i om
 refine aD bI func170 rfl ?_;refine Z ?_;refine bJ.ph 3 1 ?_;refine bJ.at bI (λp:List Nat × Nat=>(∀d∈p.1,d<10000)/\p.2<=1/\vl 10000 p.1+vl 10000 (b.take p.1.length)=vl 10000 (a.take p.1.length)+10000 ^ p.1.length*p.2/\p.1.length<=a.length)
  (λp=>⟨[(0,.il 1 (bX a)),(1,.il 1 (bX b)),(5,.sl 0 0 p.1.length),(6,.int .i64 p.2),(7,.int .i64 p.1.length)],[(0,.row 3 1 (bX p.1))],1,33⟩)
  (λp=>a.length-p.1.length) ([],0) [(0,0)] ⟨sq,sq,by simp[vl],sq⟩
  (aH _ rfl ⟨⟨0,_,rfl,rfl,.nil⟩,trivial⟩ ⟨aP (tD _),aP (tD _),⟨_,rfl,.nslk 0 0 _ rfl rfl⟩,aG,aG,trivial⟩) ?_
 rintro⟨s,c⟩ ⟨h1,h2,h3,h4⟩;simp only at h1 h2 h3 h4 |-;have ra:=ra s.length;have rb:=rb s.length;have hua:=CT hla s.length;have hub:=CT hlb s.length;have hta:=wI (l:=a) (i:=s.length);have htb:=wI (l:=b) (i:=s.length);have hstep:=Co (B:=10000) (s:=s) (x:=a.getD s.length 0) (y:=b.getD s.length 0) rfl h3 hua hub h2;rw[<-hta,<-htb] at hstep;have hdl:=rF (B:=10000) hua hub h2;generalize a.getD s.length 0=ua at *;generalize b.getD s.length 0=ub at *;refine Z ?_;rw[aV];refine aL (λhb=>?_) (λhb=>?_)
 .have hlt:s.length<a.length:=su hb
  have e1:IntKind.i64.wrap ((ua:Int)-(ub:Int))=(ua:Int)-ub:=by rw[bF oq]
  have e2:IntKind.i64.wrap ((ua:Int)-ub-(c:Int))=(ua:Int)-ub-c:=by rw[bF oq]
  refine Z ?_;refine ra.go ?_ (.cons (tD _) G') nn;refine Z ?_;refine rb.go ?_ (.cons (tD _) G') nn;refine Z ?_;rw[e1,e2];refine aL (λhc=>?_) (λhc=>?_)
  .have hc:(ua:Int)-ub-c<0:=su hc
   rw[Y7 om] at hstep hdl;rw[Y7 om] at hstep;have e3:IntKind.i64.wrap ((ua:Int)-ub-c+10000)=((ua+10000-(ub+c):Nat):Int):=Y'
   refine Z ?_;rw[e3];refine aK (b8 rfl rfl (by rw[aV]) B') ?_;refine Z ?_;exact .mk (s++[ua+10000-(ub+c)],1) [(2,0)] ⟨f0 h1 hdl,sq,by simp only[ZB,ZY];exact hstep,by simp;omega⟩
    (aH _ rfl ⟨⟨2,_,rfl,rfl,.eq (fG _) (by rw[wU];rfl)⟩,trivial⟩ ⟨aP (tD _),aP (tD _),⟨_,rfl,.slE rfl (by simp[aV])⟩,aG,Z',trivial⟩) B'
  .have hc:¬(ua:Int)-ub-c<0:=su hc
   rw[Y3 om] at hstep hdl;rw[Y3 om] at hstep;have e5:(ua:Int)-ub-c=((ua-(ub+c):Nat):Int):=om;refine Z ?_;refine aK (b8 rfl rfl (by rw[aV]) B') ?_;refine Z ?_;exact .mk (s++[ua-(ub+c)],0) [(2,0)] ⟨f0 h1 hdl,sq,by simp only[ZB,ZY];exact hstep,by simp;omega⟩
    (aH _ rfl ⟨⟨2,_,rfl,rfl,.eq (fG _) (by rw[wU,<-e5];rfl)⟩,trivial⟩ ⟨aP (tD _),aP (tD _),⟨_,rfl,.slE rfl (by simp[aV])⟩,aG,Z',trivial⟩) B'
 .have hge:s.length=a.length:=by simp at hb;omega
  have hlt:=qN hT s h1;rw[ZD om,ZD om,hsum] at h3;have hc0:c=0:=by
   rcases(show c=0\/c=1 by omega) with e|e
   .exact e
   .rw[e] at h3;omega
  rw[hc0] at h3;have hsS:s=dY (dg 10000 S) a.length:=by
   have:=j8 hT s h1;rw[show vl 10000 s=S by omega,hge] at this;exact this
  rw[<-hsS];refine Z ?_;exact bL (r':=.il 1 (bX s)) (m':=[]) (n':=0) [] rfl trivial (.fzR rfl rfl (.same (fG _)) (by rw[aV])) C' 
theorem Yv(x y:Int)(h:decide (x<0)=decide (y<0)):sg (decide (x<0)) (x.natAbs+y.natAbs)=x+y:=by
 unfold sg;by_cases h1:x<0
 .have h2:y<0:=by rw[Y8 h1] at h;exact Zf h.symm
  rw[Y7 (Y8 h1)];omega
 .have h2:¬y<0:=by rw[ZG h1] at h;exact aAa h.symm
  rw[Y3 (su h1)];omega
theorem Yd(x y:Int)(h:decide (x<0)≠decide (y<0))(hl:y.natAbs<=x.natAbs):sg (decide (x<0)) (x.natAbs-y.natAbs)=x+y:=by
 unfold sg;by_cases h1:x<0<;>by_cases h2:y<0<;>simp[h1,h2] at h |- <;> omega
theorem jS{n k:Nat}:(∀d∈dY (dg 10000 n) k,d<10000)/\vl 10000 (dY (dg 10000 n) k)=n:=by
 refine⟨λd hd=>?_,by rw[Ce,fM hT]⟩;rcases ZO.1 hd with h|h
 .exact eJ hT n d h
 .rw[aAw h];decide
theorem wS{n:Nat}{k:Nat}(h:(dg 10000 n).length<=k):(dY (dg 10000 n) k).length=k:=iH h
theorem YU(x y:Int)(hx:(dg 10000 x.natAbs).length<=1000000)(hy:(dg 10000 y.natAbs).length<=1000000):aU prog [] 169 [fW x,fW y] (fW (x+y)):=by
 have hp:=W6 x.natAbs y.natAbs hx hy;have hpl:=Lx hT x.natAbs y.natAbs;have hcm:=Bc x.natAbs y.natAbs om;have hnp:=oV (decide (x<0)) (dg 10000 (x.natAbs+y.natAbs)) _ om (eJ hT _) (fM hT _);have hen:=tC (x+y);have hm1:y.natAbs<=x.natAbs->_:=λh=>Gf x.natAbs y.natAbs h hx
 have hm2:x.natAbs<=y.natAbs->_:=λh=>Gf y.natAbs x.natAbs h hy
 have hn1:=oV (decide (x<0)) (dY (dg 10000 (x.natAbs-y.natAbs)) (dg 10000 x.natAbs).length) _ (by rw[wS (Cd hT _ _)];omega) jS.1 jS.2;have hn2:=oV (decide (y<0)) (dY (dg 10000 (y.natAbs-x.natAbs)) (dg 10000 y.natAbs).length) _ (by rw[wS (Cd hT _ _)];omega) jS.1 jS.2;have s1:=Yv x y;have s2:=Yd x y;have s3:=Yd y x;rw[eG (x+y)] at hen |-;have fin:∀z:Int,z=x+y->fW z = .agg [.bool (decide (x+y<0)),.il 1 (bX (dg 10000 (x+y).natAbs))]:=λz h=>by rw[h];rfl
 rw[eG x,eG y];have hcj:fJ (x.natAbs:Int) (y.natAbs:Int)<0↔x.natAbs<y.natAbs:=by unfold fJ;split<;>(try split)<;>omega
 generalize fJ (x.natAbs:Int) (y.natAbs:Int)=cj at *;generalize dY (dg 10000 (x.natAbs-y.natAbs)) (dg 10000 x.natAbs).length=p1 at *;generalize dY (dg 10000 (y.natAbs-x.natAbs)) (dg 10000 y.natAbs).length=p2 at *;generalize dg 10000 (x.natAbs+y.natAbs)=pl at *;generalize decide (x+y<0)=bz at *;generalize dg 10000 (x+y).natAbs=lz at *;generalize dg 10000 x.natAbs=lx at *;generalize dg 10000 y.natAbs=ly at *;generalize decide (x<0)=bx at *;generalize decide (y<0)=by_ at *;refine aD bI func169 rfl ?_;have same:bx=by_\/bx≠by_:=by cases bx<;>cases by_<;>simp
 rcases same with e|e
 .rw[fin _ (s1 e)] at hnp;have hb:(bx == by_)=true:=by rw[e];simp
  subst e;cases bx
  all_goals refine Z ?_
  all_goals refine hp.go ?_ cg (tD _)
  all_goals refine Z ?_
  all_goals refine Rs ?_
  all_goals refine hnp.go ?_ au hen
  all_goals refine Z ?_
  all_goals refine Rs ?_
  all_goals exact aA hen C'
 .by_cases hlt:x.natAbs<y.natAbs
  .have hd:decide (cj<0)=true:=Y8 (hcj.2 hlt);rw[fin _ ((s3 (Ne.symm e) om).trans (Int.add_comm _ _))] at hn2;have hm2:=hm2 om;cases bx<;>cases by_
   .exact absurd rfl e
   rotate_right
   .exact absurd rfl e
   all_goals refine Z ?_
   all_goals refine hcm.go ?_ cg nn
   all_goals refine Z ?_
   all_goals rw[hd]
   all_goals refine Z ?_
   all_goals refine hm2.go ?_ cg (tD _)
   all_goals refine Z ?_
   all_goals refine Rs ?_
   all_goals refine hn2.go ?_ au hen
   all_goals refine Z ?_
   all_goals refine Rs ?_
   all_goals exact aA hen C'
  .have hd:decide (cj<0)=false:=ZG (λh=>hlt (hcj.1 h));rw[fin _ (s2 e om)] at hn1;have hm1:=hm1 om;cases bx<;>cases by_
   .exact absurd rfl e
   rotate_right
   .exact absurd rfl e
   all_goals refine Z ?_
   all_goals refine hcm.go ?_ cg nn
   all_goals refine Z ?_
   all_goals rw[hd]
   all_goals refine Z ?_
   all_goals refine hm1.go ?_ cg (tD _)
   all_goals refine Z ?_
   all_goals refine Rs ?_
   all_goals refine hn1.go ?_ au hen
   all_goals refine Z ?_
   all_goals refine Rs ?_
   all_goals exact aA hen C' 
theorem WI{x y p c:Nat}(hx:x<10000)(hy:y<10000)(hp:p<10000)(hc:c<10000):x*y<=99980001/\(c+(x*y+p))/10000<10000:=by
 have h:x*y<=9999*9999:=Z7 om om;refine⟨om, ?_⟩;rw[aAx om];omega
theorem R5(x y:Int)(hx:(dg 10000 x.natAbs).length<=1000000)(hy:(dg 10000 y.natAbs).length<=1000000):aU prog [] 99 [fW x,fW y] (fW (x*y)):=by
 have hla:=eJ hT x.natAbs;have hlb:=eJ hT y.natAbs;have hva:=fM hT x.natAbs;have hvb:=fM hT y.natAbs;have hz:=Oo x y;have hen:=tC (x*y);rw[eG x,eG y];generalize dg 10000 x.natAbs=a at *;generalize dg 10000 y.natAbs=b at *;have hno:∀P:List Nat,P.length=a.length+b.length->(∀d∈P,d<10000)->vl 10000 P=x.natAbs*y.natAbs->_:=λP h1 h2 h3=>oV (decide (x<0) != decide (y<0)) P _ om h2 h3
 rw[hz] at hno;generalize decide (x<0)=bx at *;generalize decide (y<0)=by_ at *;rw[eG (x*y)] at hen hno |-;generalize x.natAbs=X at *;generalize y.natAbs=Y at *;generalize decide (x*y<0)=bz at *;generalize dg 10000 (x*y).natAbs=lz at *;refine aD bI func99 rfl ?_;refine Z ?_;rw[aV,aV];have hw:IntKind.i64.wrap ((a.length:Int)+(b.length:Int))=((a.length+b.length:Nat):Int):=Y'
 rw[hw];refine aK gw ?_;refine Z ?_;refine bJ.at bI (λp:Nat × List Nat=>p.1<=a.length/\p.2.length=a.length+b.length/\(∀d∈p.2,d<10000)/\vl 10000 p.2=vl 10000 (a.take p.1)*Y/\∀k,p.1+b.length<=k->k<a.length+b.length->p.2[k]? = some 0)
  (λp=>⟨[(2,.ptr 0 0 0),(3,.ptr 1 0 0),(4,.ptr 2 0 0),(5,.sl 3 0 (a.length+b.length)),(6,.int .i64 p.1)],[(0,.row 40 2 [.agg [.bool bx,.il 1 (bX a)]]),(1,.row 40 2 [.agg [.bool by_,.il 1 (bX b)]]),(2,.row 40 2 [.agg [.bool false,.nsl]]),(3,.row 3 1 (bX p.2))],4,76⟩)
  (λp=>a.length-p.1) (0,List.replicate (a.length+b.length) 0) [(0,0),(1,1),(2,2),(3,3)] ⟨sq,sq,sq,by simp only;rw[AH];simp[vl],λk h1 h2=>by simp only;rw[aAr,Y7 h2]⟩
  (aH _ rfl ⟨aF 0 I',aF 1 I',aF 2 (nN _),⟨3,_,rfl,rfl,.eq (fG _) (by rw[Cl,Y1])⟩,trivial⟩
   ⟨aM,aM,aM,⟨_,rfl,.slE rfl (Y1 _)⟩,aG,trivial⟩) ?_
 rintro⟨i,P⟩ ⟨h1,h2,h3,h4,h5⟩;simp only at h1 h2 h3 h4 h5 |-;refine Z ?_;rw[aV];refine aL (λhb=>?_) (λhb=>?_)
 .have hlt:i<a.length:=su hb
  obtain⟨u,hu⟩:∃u,a[i]? = some u:=⟨_,Yz hlt⟩
  have hul:=hla _ (Y5 hu);have g1:=vU hu;refine Z ?_;refine bJ.at bI (λp:Nat × List Nat × Nat=>p.1<=b.length/\p.2.1.length=a.length+b.length/\(∀d∈p.2.1,d<10000)/\p.2.2<10000 /\
    vl 10000 p.2.1+10000 ^ (i+p.1)*p.2.2=vl 10000 (a.take i)*Y+u*(10000 ^ i*vl 10000 (b.take p.1))/\∀k,i+b.length<=k->k<a.length+b.length->p.2.1[k]? = some 0)
   (λp=>⟨[(2,.ptr 0 0 0),(3,.ptr 1 0 0),(4,.ptr 2 0 0),(5,.sl 3 0 (a.length+b.length)),(6,.int .i64 i),(7,.int .i64 p.2.2),(8,.int .i64 p.1)],[(0,.row 40 2 [.agg [.bool bx,.il 1 (bX a)]]),(1,.row 40 2 [.agg [.bool by_,.il 1 (bX b)]]),(2,.row 40 2 [.agg [.bool false,.nsl]]),(3,.row 3 1 (bX p.2.1))],4,76⟩)
   (λp=>b.length-p.1) (0,P,0) [(0,0),(1,1),(2,2),(3,3)] ⟨sq,h2,h3,sq,by simp only;rw[h4];simp[vl],h5⟩
   (aH _ rfl ⟨aF 0 I',aF 1 I',aF 2 (nN _),aF 3 (fG _),trivial⟩
    ⟨aM,aM,aM,V',aG,aG,aG,trivial⟩) ?_
  rintro⟨j,Q,c⟩ ⟨h0,k2,k3,hc,k4,k5⟩;simp only at h0 k2 k3 hc k4 k5 |-;refine Z ?_;rw[aV];refine aL (λhb=>?_) (λhb=>?_)
  .have hlt2:j<b.length:=su hb
   obtain⟨v,hv⟩:∃v,b[j]? = some v:=⟨_,Yz hlt2⟩
   obtain⟨p,hp⟩:∃p,Q[i+j]? = some p:=⟨_,Yz om⟩
   have hvl:=hlb _ (Y5 hv);have hpl:=k3 _ (Y5 hp);have g2:=vU hv;have g3:=OQ hp;have bi:=jE (i:=i+j) (n:=a.length+b.length) om;obtain⟨q1,q4⟩:=WI hul hvl hpl hc;have e3:IntKind.i64.wrap ((u:Int)*(v:Int))=((u*v:Nat):Int):=by rw[<-Int.natCast_mul,bF oq]
   have e4:IntKind.i64.wrap ((i:Int)+(j:Int))=((i+j:Nat):Int):=Y'
   have e6:IntKind.i64.wrap ((p:Int)+((u*v:Nat):Int))=((u*v+p:Nat):Int):=Y'
   have e7:IntKind.i64.wrap (((u*v+p:Nat):Int)+(c:Int))=((c+(u*v+p):Nat):Int):=Y'
   have e8:(((c+(u*v+p):Nat):Int)).tmod 10000=(((c+(u*v+p))%10000:Nat):Int):=n6 _ 10000;have e9:IntKind.i64.wrap ((((c+(u*v+p):Nat):Int)).tdiv 10000)=(((c+(u*v+p))/10000:Nat):Int):=by
    rw[show (((c+(u*v+p):Nat):Int)).tdiv 10000=(((c+(u*v+p))/10000:Nat):Int) from kJ _ 10000,bF oq]
   have hms:=I5 (B:=10000) hp k4 (y:=v);have hmd:(c+(u*v+p))%10000<10000:=Zr _ H';refine Z ?_;rw[e4];refine Rt ?_;repeat((first|refine aK bi ?_|refine aC g3 ?_|refine aC g1 ?_|refine aC g2 ?_);refine Rt ?_)
   rw[e3,e6,e7];refine Rs ?_;repeat((first|rw[e4]|refine aK bi ?_|refine aC g3 ?_);refine Rt ?_)
   exact .mk (j+1,Q.set (i+j) ((c+(u*v+p))%10000),(c+(u*v+p))/10000) [(0,0),(1,1),(2,2),(3,3)]
    ⟨by simp only;omega,by simp only[aAR];exact k2,Gv k3 hmd,q4,by
      simp only;rw[iL hv,Nat.mul_add (10000 ^ i),<-Nat.mul_assoc (10000 ^ i) (10000 ^ j),<-Nat.pow_add];exact hms,λk z1 z2=>by simp only;rw[sH om];exact k5 k z1 z2⟩
    (aH _ rfl ⟨aF 0 I',aF 1 I',aF 2 (nN _),⟨3,_,rfl,rfl,.eq (fG _) (by rw[e8,Y1,ZP,Dp])⟩,trivial⟩
     ⟨aM,aM,aM,V',aG,⟨_,rfl,.int e9⟩,⟨_,rfl,.w64 sq U'⟩,trivial⟩) J'
  .have hj:j=b.length:=by simp at hb;omega
   subst hj;rw[ZK,hvb] at k4;have e4:IntKind.i64.wrap ((i:Int)+(b.length:Int))=((i+b.length:Nat):Int):=Y'
   have hp:=k5 (i+b.length) om om;have g3:=OQ hp;have bi:=jE (i:=i+b.length) (n:=a.length+b.length) om;have hvs:=HE 10000 Q (i+b.length) c 0 hp;refine Z ?_;rw[aV,e4];refine Rs ?_;repeat((first|refine aK bi ?_|refine aC g3 ?_);refine Rt ?_)
   exact .mk (i+1,Q.set (i+b.length) c) [(0,0),(1,1),(2,2),(3,3)]
    ⟨by simp only;omega,by simp only[aAR];exact k2,Gv k3 hc,by
      simp only;rw[iL hu,Nat.add_mul,Nat.mul_assoc (10000 ^ i),aAF (10000 ^ i),<-k4];omega,λk z1 z2=>by simp only;rw[sH om];exact k5 k om z2⟩
    (aH _ rfl ⟨aF 0 I',aF 1 I',aF 2 (nN _),⟨3,_,rfl,rfl,.eq (fG _) (by rw[Y1,ZP,Dp])⟩,trivial⟩
     ⟨aM,aM,aM,V',⟨_,rfl,.w64 sq U'⟩,trivial⟩) J'
 .have hi:i=a.length:=by simp at hb;omega
  subst hi;rw[ZK,hva] at h4;have hno:=hno P h2 h3 h4;refine Z ?_;refine aJ.pre bI [(0,0),(1,1),(2,2)] (mem':=[(0,.row 40 2 [.agg [.bool bx,.il 1 (bX a)]]),(1,.row 40 2 [.agg [.bool by_,.il 1 (bX b)]]),(2,.row 40 2 [.agg [.bool false,.nsl]])]) rfl
   ⟨aF 0 I',aF 1 I',aF 2 (nN _),trivial⟩
   (.cons (.same _ (zG _)) (.cons (.fz' (id:=3) (ys:=bX P) rfl rfl (by rw[aV,h2];omega) (by rw[ZT,ZD (by rw[aV,h2];omega)]) (fG _)) .nil)) ?_
  refine hno.go ?_ au hen;refine Rt ?_;exact aA hen C' 
theorem UG(x k:Nat)(hx:(dg 10000 x).length<=1000000)(hk:k<10000):aU prog [] 221 [.il 1 (bX (dg 10000 x)),.int .i64 k] (.il 1 (bX (dg 10000 (x*k)))):=by
 have h1:=Su (k:Int) oq;have hk1:(dg 10000 (k:Int).natAbs).length<=1:=fT hT dv;have h2:=R5 (x:Int) (k:Int) (by rw[ZM];exact hx) om;have n0:∀n:Nat,decide ((n:Int)<0)=false:=λn=>ZG om
 rw[eG (k:Int)] at h1 h2;rw[<-Int.natCast_mul,eG ((x*k:Nat):Int),eG (x:Int)] at h2;simp only[ZM,n0] at h1 h2;generalize dg 10000 k=lk at *;generalize dg 10000 x=a at *;generalize dg 10000 (x*k)=z at *;refine aD bI func221 rfl ?_;refine Z ?_;refine h1.go ?_ G' (fO _ _);refine Z ?_;refine h2.go ?_ bu (fO _ _);refine Rt ?_;exact aA (tD _) C' 
theorem L2(l:List Nat)(i:Int)(hl:l.length<=4294967296):aU prog [] 251 [.il 1 (bX l),.int .i64 i] (.int .i64 (zS l i:Nat)):=by
 refine aD bI func251 rfl ?_;by_cases h0:i<0
 .refine Z ?_;rw[Y8 h0];refine Z ?_;exact cN (r':=.int .i64 (zS l i:Nat)) (.int (by unfold zS;rw[Y7 h0];rfl)) C'
 .obtain⟨n,rfl⟩:∃n:Nat,i=n:=⟨i.toNat,om⟩
  rw[K7];refine Z ?_;rw[ZG h0];refine Z ?_;rw[aV];refine aL (λhb=>?_) (λhb=>?_)
  .have hge:l.length<=n:=su hb
   refine Z ?_;exact cN (r':=.int .i64 (l.getD n 0:Nat)) (.int (by rw[Y0,ZJ hge];rfl)) C'
  .have hlt:n<l.length:=su hb
   obtain⟨d,hd⟩:∃d,l[n]? = some d:=⟨_,Yz hlt⟩
   have e1:=vU hd;refine Z ?_;refine aC e1 ?_;refine Z ?_;exact cN (r':=.int .i64 (l.getD n 0:Nat)) (.int (by rw[Y0,hd];rfl)) C' 
theorem XF(a b:Nat):(if (b:Int)<(a:Int) then(b:Int) else(a:Int))=((min a b:Nat):Int):=by
 by_cases h:(b:Int)<a
 .rw[Y7 h,Nat.min_eq_right om]
 .rw[Y3 h,Z5 om]
theorem T6(r b:List Nat)(hr:∀d∈r,d<10000)(hb:∀d∈b,d<10000)(hrl:r.length<=1000000)(hbl:b.length<=1000000)(htop:0<zS b ((b.length:Int)-1)) :
  aU prog [] 219 [.il 1 (bX r),.il 1 (bX b)] (.tup [.int .i64 ((G2 r b).1:Nat),.int .i64 ((G2 r b).2:Nat)]):=by
 have dr:=λi=>L2 r i om
 have db:=λi=>L2 b i om
 have lr:=λi=>PM (show 0<10000 by omega) hr i
 have lb:=λi=>PM (show 0<10000 by omega) hb i
 have hU:K3 r b=10000*(10000*zS r (b.length:Int)+zS r ((b.length:Int)-1))+zS r ((b.length:Int)-2):=rfl;have hL:HU b=10000*zS b ((b.length:Int)-1)+zS b ((b.length:Int)-2):=rfl;have hR:(if r.length<b.length\/b.length=0 then(0,0) else(min 9999 (K3 r b/(HU b+1)),min 9999 (K3 r b/HU b)))=G2 r b:=rfl;have d1:=dr (b.length:Int);have d2:=dr ((b.length:Int)-1);have d3:=dr ((b.length:Int)-2);have d4:=db ((b.length:Int)-1);have d5:=db ((b.length:Int)-2);have l1:=lr (b.length:Int);have l2:=lr ((b.length:Int)-1);have l3:=lr ((b.length:Int)-2);have l4:=lb ((b.length:Int)-1);have l5:=lb ((b.length:Int)-2);generalize zS r (b.length:Int)=u1 at *;generalize zS r ((b.length:Int)-1)=u2 at *;generalize zS r ((b.length:Int)-2)=u3 at *;generalize zS b ((b.length:Int)-1)=v1 at *;generalize zS b ((b.length:Int)-2)=v2 at *;have hUl:K3 r b<1000000000000:=om;have hLl:HU b<100000000:=om;have hL0:0<HU b:=om;have w1:IntKind.i64.wrap ((b.length:Int)-1)=(b.length:Int)-1:=bF oq;have w2:IntKind.i64.wrap ((b.length:Int)-2)=(b.length:Int)-2:=bF oq;have w3:IntKind.i64.wrap (10000*(u1:Int))=((10000*u1:Nat):Int):=Y'
 have w4:IntKind.i64.wrap (((10000*u1:Nat):Int)+(u2:Int))=((10000*u1+u2:Nat):Int):=Y'
 have w5:IntKind.i64.wrap (10000*((10000*u1+u2:Nat):Int))=((10000*(10000*u1+u2):Nat):Int):=Y'
 have w6:IntKind.i64.wrap (((10000*(10000*u1+u2):Nat):Int)+(u3:Int))=((K3 r b:Nat):Int):=Y'
 have w7:IntKind.i64.wrap (10000*(v1:Int))=((10000*v1:Nat):Int):=Y'
 have w8:IntKind.i64.wrap (((10000*v1:Nat):Int)+(v2:Int))=((HU b:Nat):Int):=Y'
 generalize K3 r b=U at *;generalize HU b=L at *;have hq1:U/(L+1)<=U:=aAu _ _;have hq2:U/L<=U:=aAu _ _;have w9:IntKind.i64.wrap ((L:Int)+1)=((L+1:Nat):Int):=Y'
 have w10:=kJ U (L+1);have w11:=kJ U L;generalize U/(L+1)=Q1 at *;generalize U/L=Q2 at *;have w12:IntKind.i64.wrap (Q1:Int)=(Q1:Int):=bF oq;have w13:IntKind.i64.wrap (Q2:Int)=(Q2:Int):=bF oq;have z1:(!decide (((L+1:Nat):Int)=0))=true:=by rw[ZG om];rfl
 have z2:(!decide ((L:Int)=0))=true:=by rw[ZG om];rfl
 refine aD bI func219 rfl ?_;by_cases hlt:r.length<b.length
 .rw[Y7 (.inl hlt)] at hR;rw[<-hR];refine Z ?_;rw[aV,aV,Y8 om];refine Z ?_;exact aA (.tup' (.cons nn G')) C'
 .by_cases hb0:b.length=0
  .rw[Y7 (.inr hb0)] at hR;rw[<-hR];have hz:((b.length:Int) == 0)=true:=by rw[hb0];rfl
   refine Z ?_;rw[aV,aV,ZG om];refine Z ?_;rw[hz];refine Z ?_;exact aA (.tup' (.cons nn G')) C'
  .rw[Y3 om] at hR;rw[<-hR];have hz:((b.length:Int) == 0)=false:=by simp;intro h;exact hb0 (by rw[h];rfl)
   refine Z ?_;rw[aV,aV,ZG om];refine Z ?_;rw[hz];refine Z ?_;refine d1.go ?_ (.cons (tD _) G') nn;refine Z ?_;rw[w1];refine d2.go ?_ (.cons (tD _) G') nn;refine Z ?_;rw[w2];refine d3.go ?_ (.cons (tD _) G') nn;refine Z ?_;rw[w1];refine d4.go ?_ (.cons (tD _) G') nn;refine Z ?_;rw[w2];refine d5.go ?_ (.cons (tD _) G') nn;refine Z ?_;rw[w3,w4,w5,w6,w7,w8,w9,z1];refine Z ?_;rw[w10,w12];refine Rs ?_;rw[z2];refine Z ?_;rw[w11,w13];refine Rs ?_;exact cN (r':=.tup [.int .i64 ((min 9999 Q1:Nat):Int),.int .i64 ((min 9999 Q2:Nat):Int)]) (.tup' (.cons (.int (XF 9999 Q1)) (.cons (.int (XF 9999 Q2)) .nil))) C' 
theorem yV(l:List Nat)(n:Nat)(hl:l.length<=4294967296)(hd:∀d∈l,d<10000)(hv:vl 10000 l=n):aU prog [] 98 [.bool false,.il 1 (bX l)] (.agg [.bool false,.il 1 (bX (dg 10000 n))]):=oV false l n hl hd hv
theorem P5(la lb:Nat)(h:1<=lb):(if (if (la:Int)-lb+1<la then(la:Int)-lb+1 else la)>(0:Int) then(if (la:Int)-lb+1<la then(la:Int)-lb+1 else la) else 0)=((la+1-lb:Nat):Int):=by
 split<;>split<;>omega
theorem Uu{j n:Nat}(h:j<=n):(Nat.ble ((j:Nat):Int).toNat n && (Nat.ble n n && Nat.ble n n))=true:=by
 rw[Y1,Y2 h,Y2 (ZA _)];rfl
theorem JT{l:List Nat}{f:Nat}:List.take (l.length-((f:Nat):Int).toNat) (List.drop ((f:Nat):Int).toNat (bX l))=bX (l.drop f):=by
 rw[Y1,NK,ZD (by rw[aV,aAg];omega)]
theorem EW{i d:Nat}{R:List Nat}:(bX (lV (i+1) R)).set (0+((i:Nat):Int).toNat) (.int .i64 (d:Int))=bX (lV i (d::R)):=by
 rw[Y1,ZP,Dp,C5]
theorem OR(x y:Nat)(hy:0<y)(hx:(dg 10000 x).length<=900000)(hyl:(dg 10000 y).length<=900000) :
  aJ prog [] 168 [.il 1 (bX (dg 10000 x)),.il 1 (bX (dg 10000 y))] [] 0 λr m n=>
   ∃Q:List Nat,r = .tup [.il 1 (bX Q),.il 1 (bX (dg 10000 (x%y)))]/\m=[]/\n=0/\Q.length=(dg 10000 x).length/\(∀d∈Q,d<10000)/\vl 10000 Q=x/y:=by
 have hla:=eJ hT x;have hlb:=eJ hT y;have hva:=fM hT x;have hb1:1<=(dg 10000 y).length:=by rw[kV hT hy];simp
 have htop:=QA hT hy;have hyb:=En hT y hy;have hxy:(dg 10000 x).length<(dg 10000 y).length->x<y:=o6 hT;have rdig:∀r:Nat,r<y*10000->_:=λr h=>T6 (dg 10000 r) (dg 10000 y) (eJ hT r) hlb (by
  have:=cU hT (aAE h);have:=qT hT y 10000;have:(dg 10000 10000).length<=2:=fT hT H';omega) om htop
 have rsm:∀k:Nat,k<10000->_:=λk h=>UG y k om h
 have rcm:∀k r:Nat,k<10000->_:=λk r h=>Bc (y*k) r (by
  have:=qT hT y k;have:(dg 10000 k).length<=1:=wO hT h;omega)
 have dok:∀r:Nat,r<y*10000->_:=λr h=>Qw hy h
 have hrl:∀r:Nat,r<y*10000->(dg 10000 r).length<=900002:=λr h=>by
  have:=cU hT (aAE h);have:=qT hT y 10000;have:(dg 10000 10000).length<=2:=fT hT H';omega
 have rmi:∀r k:Nat,r<y*10000->y*k<=r->_:=λr k h h2=>Gf r (y*k) h2 (by have:=hrl r h;omega)
 generalize dg 10000 x=a at *;generalize hbd:dg 10000 y=b at *;obtain⟨f,hf⟩:∃f,f=a.length+1-b.length:=cm
 have hfl:f<=a.length:=om;have hR0:vl 10000 (a.drop f)<y:=by
  rcases ZF f with e|e
  .rw[e,ZT,hva];exact hxy om
  .have h1:=qN hT (a.drop f) λd h=>hla d (Zn h)
   rw[aAg,show a.length-f=b.length-1 by omega] at h1;omega
 have hdrop:∀d∈a.drop f,d<10000:=λd h=>hla d (Zn h)
 have hno0:=yV (a.drop f) _ (by rw[aAg];omega) hdrop rfl;refine aD bI func168 rfl ?_;refine Z ?_;rw[aV];refine aK gw ?_;refine Z ?_;rw[aV,aV];have w1:IntKind.i64.wrap ((a.length:Int)-b.length)=(a.length:Int)-b.length:=bF oq;have w2:IntKind.i64.wrap ((a.length:Int)-b.length+1)=(a.length:Int)-b.length+1:=bF oq;rw[w1,w2];have hfe:=P5 a.length b.length hb1;rw[<-hf] at hfe;rw[hfe,Y8 (show (0:Int)<=(f:Int) by omega)];refine Z ?_;refine aK (Uu hfl) ?_;refine Z ?_;rw[JT];refine hno0.go ?_ au (fO _ _);refine Rt ?_;refine bJ.at bI (λp:Nat × List Nat × Nat=>p.1<=f/\p.2.1.length=a.length-p.1/\(∀d∈p.2.1,d<10000)/\p.2.2<y/\vl 10000 (a.drop p.1)=vl 10000 p.2.1*y+p.2.2)
  (λp=>⟨[(0,.il 1 (bX a)),(1,.il 1 (bX b)),(6,.sl 0 0 a.length),(9,.il 1 (bX (dg 10000 p.2.2))),(10,.int .i64 ((p.1:Int)-1))],[(0,.row 3 1 (bX (lV p.1 p.2.1)))],1,88⟩)
  (λp=>p.1) (f,List.replicate (a.length-f) 0,vl 10000 (a.drop f)) [(0,0)] ⟨ZA _,sq,by intro d hd;simp only at hd;rw[aAw hd];decide,hR0,by simp only;rw[AH];simp⟩
  (aH _ rfl ⟨⟨0,_,rfl,rfl,.eq (fG _) (by
    rw[show bX (lV f (List.replicate (a.length-f) 0))=bX (List.replicate a.length 0) by
     unfold lV;rw[List.replicate_append_replicate];congr 2;omega]
    rw[Cl,Y1])⟩,trivial⟩
   ⟨aP (tD _),aP (tD _),⟨_,rfl,.slE rfl (Y1 _)⟩,aP (tD _),ej,trivial⟩) ?_
 clear hR0 hno0;rintro⟨m,R,r⟩ ⟨h1,h2,h3,h4,h5⟩;simp only at h1 h2 h3 h4 h5 |-;refine Z ?_;refine aL (λhb=>?_) (λhb=>?_)
 .have hm1:0<m:=by simp at hb;omega
  obtain⟨i,rfl⟩:∃i,m=i+1:=⟨m-1,om⟩
  rw[show (((i+1:Nat):Int)-1)=(i:Int) by omega];obtain⟨u,hu⟩:∃u,a[i]? = some u:=⟨_,Yz om⟩
  have hul:=hla _ (Y5 hu);have g1:=vU hu;obtain⟨s1,s2,s3⟩:=MQ hy h5 h4 hul;rw[<-dG hu] at s1;have hrlen:(dg 10000 r).length<=900002:=hrl r om;have hdr:∀d∈u::dg 10000 r,d<10000:=λd hd=>by
   rcases ZC.1 hd with h|h
   .rw[h];exact hul
   .exact eJ hT r d h
  have hno1:=yV (u::dg 10000 r) (u+10000*r) B' hdr (by rw[vl,fM hT]);obtain⟨r1,hr1⟩:∃r1,r1=u+10000*r:=cm
  rw[<-hr1] at hno1 s1 s2 s3;have rdig:=rdig r1 s3;obtain⟨dk1,dk2,dk3⟩:=dok r1 s3;generalize (G2 (dg 10000 r1) b).1=lo0 at *;generalize (G2 (dg 10000 r1) b).2=hi0 at *;have hrl1:=hrl r1 s3;have rcm:=λk=>rcm k r1
  have rmi:=λk=>rmi r1 k s3
  have hq9:r1/y<10000:=om;have hcons:bX (u::dg 10000 r)=[AV.int .i64 (u:Int)]++bX (dg 10000 r):=rfl;refine Z ?_;refine aC g1 ?_;refine Z ?_;refine aK (b8 rfl rfl rfl (by rw[aV];omega)) ?_;refine Z ?_;refine aJ.pre bI [(0,0)] (mem':=[(0,.row 3 1 (bX (lV (i+1) R)))]) rfl ⟨aF 0 (fG _),trivial⟩
   (.cons (.same _ (zG _)) (.cons (.fz' (id:=2) (off:=0) (ys:=bX (u::dg 10000 r)) rfl rfl (by simp[aV];omega) (by
    rw[ZT,ZD (by simp[aV];omega)];rfl) (fG _)) .nil)) ?_
  refine hno1.go ?_ au (fO _ _);refine Rt ?_;refine rdig.go ?_ cg nn;refine Z ?_;refine bJ.at bI (λp:Nat × Nat=>p.1<=r1/y/\r1/y<=p.2/\p.2<=9999)
   (λp=>⟨[(0,.il 1 (bX a)),(1,.il 1 (bX b)),(6,.sl 0 0 a.length),(9,.il 1 (bX (dg 10000 r1))),(10,.int .i64 i),(12,.int .i64 p.1),(13,.int .i64 p.2)],[(0,.row 3 1 (bX (lV (i+1) R)))],1,88⟩)
   (λp=>p.2-p.1) (lo0,hi0) [(0,0)] ⟨dk1,dk2,dk3⟩
   (aH _ rfl ⟨aF 0 (fG _),trivial⟩
    ⟨aP (tD _),aP (tD _),V',aP (tD _),aG,aG,aG,trivial⟩) ?_
  clear dk1 dk2 dk3;rintro⟨lo,hi⟩ ⟨k1,k2,k3⟩;simp only at k1 k2 k3 |-;refine Z ?_;refine aL (λhc=>?_) (λhc=>?_)
  .have hlh:lo<hi:=su hc
   have w3:IntKind.i64.wrap ((lo:Int)+(hi:Int))=((lo+hi:Nat):Int):=Y'
   have w4:IntKind.i64.wrap (((lo+hi:Nat):Int)+1)=((lo+hi+1:Nat):Int):=Y'
   have w5:IntKind.i64.wrap ((((lo+hi+1:Nat):Int)).tdiv 2)=(((lo+hi+1)/2:Nat):Int):=by
    rw[show (((lo+hi+1:Nat):Int)).tdiv 2=(((lo+hi+1)/2:Nat):Int) from kJ _ 2,bF oq]
   have hmid:(lo+hi+1)/2<10000/\lo<(lo+hi+1)/2/\(lo+hi+1)/2<=hi:=om;obtain⟨hm1,hm2,hm3⟩:=hmid;refine Z ?_;rw[w3,w4,w5];generalize (lo+hi+1)/2=mid at *;have hmy:mid<=r1/y↔y*mid<=r1:=by rw[aBc hy,ZV]
   have hcj:fJ ((y*mid:Nat):Int) (r1:Int)<=0↔y*mid<=r1:=by unfold fJ;split<;>(try split)<;>omega
   have rcm:=rcm mid hm1;have rsm:=rsm mid hm1;generalize fJ ((y*mid:Nat):Int) (r1:Int)=cj at *;generalize dg 10000 (y*mid)=ym at *;refine rsm.go ?_ (.cons (tD _) G') (tD _);refine Z ?_;refine rcm.go ?_ cg nn;refine Z ?_;refine aL (λhc=>?_) (λhc=>?_)
   .have hc:=hmy.2 (hcj.1 (Zf hc));refine Z ?_;exact .mk (mid,hi) [(0,0)] ⟨hc,k2,k3⟩
     (aH _ rfl ⟨aF 0 (fG _),trivial⟩
      ⟨aP (tD _),aP (tD _),V',aP (tD _),aG,aG,aG,trivial⟩) J'
   .have hc:¬mid<=r1/y:=λh=>aAa hc (hcj.2 (hmy.1 h))
    refine Z ?_;exact .mk (lo,mid-1) [(0,0)] ⟨k1,by simp only;omega,by simp only;omega⟩
     (aH _ rfl ⟨aF 0 (fG _),trivial⟩
      ⟨aP (tD _),aP (tD _),V',aP (tD _),aG,aG,⟨_,rfl,.wp⟩,trivial⟩) J'
  .have hlh:lo=r1/y:=by simp at hc;omega
   rw[hlh];have rsm:=rsm (r1/y) hq9;have hyq:y*(r1/y)<=r1:=Nat.mul_div_le _ _;have rmi:=rmi (r1/y) hyq;have hmd:r1-y*(r1/y)=r1%y:=by have:=aBf r1 y;omega
   rw[hmd] at rmi;have hno2:=yV (dY (dg 10000 (r1%y)) (dg 10000 r1).length) _ (by rw[wS (cU hT (Nat.mod_le _ _))];omega) jS.1 jS.2;have g3:(bX (lV (i+1) R))[0+((i:Nat):Int).toNat]? = some (.int .i64 0):=OQ IQ;have bi:=jE (i:=i) (n:=a.length) om;generalize dg 10000 (y*(r1/y))=ym at *;generalize dY (dg 10000 (r1%y)) (dg 10000 r1).length=pq at *;refine Z ?_;refine rsm.go ?_ (.cons (tD _) G') (tD _);refine Z ?_;refine rmi.go ?_ cg (tD _);refine Z ?_;refine hno2.go ?_ au (fO _ _);refine Rt ?_;repeat((first|refine aK bi ?_|refine aC g3 ?_);refine Rt ?_)
   exact .mk (i,(r1/y)::R,r1%y) [(0,0)] ⟨by simp only;omega,by simp;omega,λd hd=>by
     rcases ZC.1 hd with h|h
     .rw[h];exact hq9
     .exact h3 d h,s2,by simp only[vl];exact s1⟩
    (aH _ rfl ⟨⟨0,_,rfl,rfl,.eq (fG _) EW⟩,trivial⟩
     ⟨aP (tD _),aP (tD _),V',aP (tD _),ej,trivial⟩) J'
 .have hm0:m=0:=by simp at hb;omega
  subst hm0;rw[ZT,hva] at h5;have e1:x/y=vl 10000 R:=by rw[h5,aBv,Nat.add_mul_div_right _ _ hy,aAh h4,ZP]
  have e2:x%y=r:=by rw[h5,aBv,aBW,Zt h4]
  refine Z ?_;exact bL (r':=.tup [.il 1 (bX R),.il 1 (bX (dg 10000 r))]) (m':=[]) (n':=0) [] rfl trivial (.tup' (.cons (.fzR rfl rfl (.eq (fG _) (by unfold lV;simp)) (by rw[aV];omega)) (.cons (.same _ (tD _)) .nil))) ⟨R,by rw[e2],rfl,rfl,om,h3,e1.symm⟩
theorem Uz(b:Bool)(m n:Nat):sg b m+sg b n=sg b (m+n):=by unfold sg;split<;>omega
theorem Ua(x y:Int)(hy0:y≠0)(hx:(dg 10000 x.natAbs).length<=900000)(hy:(dg 10000 y.natAbs).length<=900000):aU prog [] 97 [fW x,fW y] (.tup [fW (x/y),fW (x%y)]):=by
 have hyp:0<y.natAbs:=aBH.2 hy0;have hd:=OR x.natAbs y.natAbs hyp hx hy;obtain⟨hs1,hs2⟩:=Fc (x:=x) hy0;have hm:=Zr x.natAbs hyp;have hlq:=xC hT x.natAbs y.natAbs;have hlr:=CN hT x.natAbs y.natAbs;have hno:∀Q:List Nat,Q.length=(dg 10000 x.natAbs).length->(∀d∈Q,d<10000)->vl 10000 Q=x.natAbs/y.natAbs->_:=λQ h1 h2 h3=>oV (decide (x<0) != decide (y<0)) Q _ om h2 h3
 have hnr:=yV (dg 10000 (x.natAbs%y.natAbs)) _ om (eJ hT _) (fM hT _);have h1:=oV (decide (x<0) != decide (y<0)) [1] 1 sq sq (by simp[vl]);have ha:=YU (sg (decide (x<0) != decide (y<0)) (x.natAbs/y.natAbs)) (sg (decide (x<0) != decide (y<0)) 1) (by rw[Du];omega) (by rw[Du];have:(dg 10000 1).length<=1:=wO hT H';omega);rw[Uz] at ha;have hmi:=Gf y.natAbs (x.natAbs%y.natAbs) om om;have hnm:=yV (dY (dg 10000 (y.natAbs-x.natAbs%y.natAbs)) (dg 10000 y.natAbs).length) _ (by rw[wS (Cd hT _ _)];omega) jS.1 jS.2;have hrl:decide (0<(dg 10000 (x.natAbs%y.natAbs)).length)=decide (0<x.natAbs%y.natAbs):=fL hT;have e0:∀n:Nat,fW (n:Int) = .agg [.bool false,.il 1 (bX (dg 10000 n))]:=λn=>by rw[eG,ZG om,ZM]
 obtain⟨b1,l1,q1⟩:∃b l,fW (sg (decide (x<0) != decide (y<0)) (x.natAbs/y.natAbs)) = .agg [.bool b,.il 1 (bX l)]:=⟨_,_,rfl⟩
 obtain⟨b2,l2,q2⟩:∃b l,fW (sg (decide (x<0) != decide (y<0)) 1) = .agg [.bool b,.il 1 (bX l)]:=⟨_,_,rfl⟩
 obtain⟨b3,l3,q3⟩:∃b l,fW (sg (decide (x<0) != decide (y<0)) (x.natAbs/y.natAbs+1)) = .agg [.bool b,.il 1 (bX l)]:=⟨_,_,rfl⟩
 rw[q1] at hno ha;rw[q2] at h1 ha;rw[q3] at ha;have fA:decide (x<0)=true/\0<x.natAbs%y.natAbs->AV.tup [fW (x/y),fW (x%y)] = .tup [.agg [.bool b3,.il 1 (bX l3)],.agg [.bool false,.il 1 (bX (dg 10000 (y.natAbs-x.natAbs%y.natAbs)))]]:=λh=>by
  rw[(hs1 h).1,(hs1 h).2,q3,e0]
 have fB:¬(decide (x<0)=true/\0<x.natAbs%y.natAbs)->AV.tup [fW (x/y),fW (x%y)] = .tup [.agg [.bool b1,.il 1 (bX l1)],.agg [.bool false,.il 1 (bX (dg 10000 (x.natAbs%y.natAbs)))]]:=λh=>by
  rw[(hs2 h).1,(hs2 h).2,q1,e0]
 generalize AV.tup [fW (x/y),fW (x%y)]=RES at *;rw[eG x,eG y];clear hs1 hs2 q1 q2 q3 hlq hlr e0;generalize dY (dg 10000 (y.natAbs-x.natAbs%y.natAbs)) (dg 10000 y.natAbs).length=pq at *;generalize dg 10000 (y.natAbs-x.natAbs%y.natAbs)=lr1 at *;generalize dg 10000 (x.natAbs%y.natAbs)=lr at *;generalize dg 10000 x.natAbs=la at *;generalize dg 10000 y.natAbs=lb at *;generalize decide (x<0)=bx at *;generalize decide (y<0)=by_ at *;have hlen:(bX lr).length=lr.length:=aV lr;refine aD bI func97 rfl ?_;refine Rt ?_;refine aJ.go0 hd ?_ cg;rintro r m n ⟨Q,rfl,rfl,rfl,z1,z2,z3⟩;refine⟨_,.same _ (.tup' cg), ?_⟩;have hno:=hno Q z1 z2 z3;refine Rt ?_;refine hno.go ?_ au (fO _ _);refine Rt ?_;refine hnr.go ?_ au (fO _ _);cases bx with
 | false=>
  rw[fB sq];refine Rt ?_;exact aA (.tup' bu) C'
 | true=>
  cases lr with
  | nil=>
   have h0:¬0<x.natAbs%y.natAbs:=su hrl
   rw[fB (λh=>h0 h.2)];refine Rt ?_;exact aA (.tup' bu) C'
  | cons r0 rs=>
   have h0:0<x.natAbs%y.natAbs:=su hrl
   rw[fA ⟨rfl,h0⟩];refine Rt ?_;refine aL (λh=>?_) (λh=>absurd h (by simp[bX]));refine Z ?_;refine aJ.pre bI [(0,0),(1,1),(2,2),(3,3),(4,4),(5,5)] (mem':=[(0,.row 40 2 [.agg [.bool true,.il 1 (bX la)]]),(1,.row 40 2 [.agg [.bool by_,.il 1 (bX lb)]]),(2,.row 40 2 [.agg [.bool false,.nsl]]),(3,.row 40 2 [.agg [.bool false,.nsl]]),(4,.row 40 2 [.agg [.bool b1,.il 1 (bX l1)]]),(5,.row 40 2 [.agg [.bool false,.il 1 (bX (r0::rs))]])]) rfl
    ⟨aF 0 I',aF 1 I',aF 2 (nN _),aF 3 (nN _),aF 4 I',aF 5 I',trivial⟩
    (.cons (.same _ (zG _)) (.cons (.fz' (id:=6) (off:=0) (len:=1) (xs:=[.int .i64 1]) (ys:=bX [1]) rfl rfl (ZA 1) rfl (fG [1])) .nil)) ?_
   refine h1.go ?_ au (fO _ _);refine Rt ?_;refine ha.go ?_ bu (fO _ _);refine Rt ?_;refine hmi.go ?_ cg (tD _);refine Rt ?_;refine hnm.go ?_ au (fO _ _);refine Rt ?_;exact aA (.tup' bu) C' 
theorem Xq(x y:Int)(hx:(dg 10000 x.natAbs).length<=900000)(hy:(dg 10000 y.natAbs).length<=900000):aU prog [] 96 [fW x,fW y] (fW (Nat.gcd x.natAbs y.natAbs:Nat)):=by
 have e0:∀n:Nat,fW (n:Int) = .agg [.bool false,.il 1 (bX (dg 10000 n))]:=λn=>by rw[eG,ZG om,ZM]
 have hn1:=yV (dg 10000 x.natAbs) _ om (eJ hT _) (fM hT _);have hn2:=yV (dg 10000 y.natAbs) _ om (eJ hT _) (fM hT _);rw[eG x,eG y,e0];generalize decide (x<0)=bx;generalize decide (y<0)=by_;generalize x.natAbs=a at *;generalize y.natAbs=b at *;obtain⟨g,hg⟩:∃g,g=Nat.gcd a b:=cm
 rw[<-hg];refine aD bI func96 rfl ?_;refine Rt ?_;refine hn1.go ?_ au (fO _ _);refine Rt ?_;refine hn2.go ?_ au (fO _ _);refine Rt ?_;refine bJ.at bI (λp:Nat × Nat=>(dg 10000 p.1).length<=900000/\(dg 10000 p.2).length<=900000/\Nat.gcd p.1 p.2=g)
  (λp=>⟨[(4,.ptr 0 0 0),(5,.ptr 1 0 0),(6,.ptr 2 0 0)],[(0,.row 40 2 [.agg [.bool false,.nsl]]),(1,.row 40 2 [.agg [.bool false,.il 1 (bX (dg 10000 p.1))]]),(2,.row 40 2 [.agg [.bool false,.il 1 (bX (dg 10000 p.2))]])],3,28⟩)
  (λp=>p.2) (a,b) [(2,0),(3,1),(4,2)] ⟨hx,hy,hg.symm⟩
  (aH _ rfl ⟨aF 2 (nN _),aF 3 I',aF 4 I',trivial⟩ ⟨aM,aM,aM,trivial⟩) ?_
 clear hn1 hn2;rintro⟨u,v⟩ ⟨h1,h2,h3⟩;simp only at h1 h2 h3 |-;have hz:=fL (B:=10000) (n:=v) hT;have hlz:decide (((bX (dg 10000 v)).length:Int)>0)=decide (0<v):=by
  rw[aV,<-hz,Zg];omega
 by_cases hv:0<v
 .have hd:=Ua (u:Int) (v:Int) om (by rw[ZM];exact h1) (by rw[ZM];exact h2);have hm:=CN hT u v;have hmlt:=Zr u hv;have hgs:=H9 u v;rw[<-Int.natCast_ediv,<-Int.natCast_emod,e0,e0,e0,e0] at hd;generalize u%v=w at *;generalize dg 10000 (u/v)=qq at *;generalize hlu:dg 10000 u=lu at *;generalize hlv:dg 10000 v=lv at *;generalize hlw:dg 10000 w=lw at *;refine Z ?_;rw[hlz,Y8 hv];refine Rt ?_;refine hd.go ?_ bu (.tup' bu);refine Rt ?_;exact .mk (v,w) [(0,0),(1,1),(2,2)] ⟨by simp only;rw[hlv];exact h2,by simp only;rw[hlw];omega,by simp only;rw[hgs];exact h3⟩
   (aH _ rfl ⟨aF 0 (nN _),⟨1,_,rfl,rfl,.eq I' (by rw[hlv])⟩,⟨2,_,rfl,rfl,.eq I' (by rw[hlw])⟩,trivial⟩ ⟨aM,aM,aM,trivial⟩) J'
 .have hv0:v=0:=om;rw[hv0,Nat.gcd_zero_right] at h3;rw[<-h3];generalize dg 10000 u=lu at *;generalize dg 10000 v=lv at *;refine Z ?_;rw[hlz,ZG hv];refine Rt ?_;exact aA (fO _ _) C' 
def Qi:List UInt8:=[48,49,50,51,52,53,54,55,56,57]
theorem Lf{d:Nat}(h:d<10):List.take (((d+1:Nat):Int).toNat-((d:Nat):Int).toNat) (List.drop ((d:Nat):Int).toNat Qi)=[UInt8.ofNat (48+d)]:=by
 rcases(show d=0\/d=1\/d=2\/d=3\/d=4\/d=5\/d=6\/d=7\/d=8\/d=9 by omega) with rfl|rfl|rfl|rfl|rfl|rfl|rfl|rfl|rfl|rfl<;>rfl
theorem WN(n:Int)(hn:i64 n):aU prog [] 164 [.int .i64 n] (.str (Lib.itoa n)):=by
 unfold i64 at hn;refine aD bI func164 rfl ?_;by_cases h0:n=0
 .subst h0;rw[NS];refine Z ?_;exact aA nn C'
 have e0:(n == 0)=false:=su h0
 refine Z ?_;rw[e0];refine Z ?_;refine bJ.at bI (λa:Int × List UInt8=>a.1.natAbs<=n.natAbs/\(a.1=0\/(a.1<0↔n<0))/\Lib.decDigits n.natAbs=sJ a.1.natAbs++a.2)
  (λa=>⟨[(0,.int .i64 n),(3,.str Qi),(4,.str a.2),(5,.int .i64 a.1)],[],0,32⟩) (λa=>a.1.natAbs) (n,[]) [] ⟨ZA _,.inr Iff.rfl,by simp[sJ,h0]⟩
  (b9 ⟨aG,aG,aG,aG,trivial⟩) ?_
 rintro⟨k,s⟩ ⟨hk1,hk2,hk3⟩;simp only at hk1 hk2 hk3;have hsl:s.length<=20:=by
  have h1:=zJ n.natAbs om;rw[<-Lib.decDigits_length,hk3,ZB] at h1;omega
 by_cases hk0:k=0
 .subst hk0;rw[show sJ (Int.natAbs 0)=[] from rfl,Zp] at hk3;refine Z ?_;refine aL (λh=>?_) (λh=>?_)
  .refine Z ?_;refine aK (Y2 B') ?_;refine Z ?_;refine aA nn ⟨?_,rfl,rfl⟩;rw[Lib.itoa,Y7 (su h),hk3];rfl
  .refine Z ?_;refine aA nn ⟨?_,rfl,rfl⟩;have h':¬n<0:=su h
   have e:n.toNat=n.natAbs:=om;rw[Lib.itoa,Y3 h',e,hk3]
 .have e1:(k == 0)=false:=su hk0
  refine Z ?_;rw[show ((k,s).fst != 0)=true by simpa using hk0];have hq:=Int.mul_tdiv_add_tmod k 10;have hkq:k.tdiv 10=if 0<=k then((k.natAbs/10:Nat):Int) else -((k.natAbs/10:Nat):Int):=by
   split
   .rw[aAB gi];omega
   .obtain⟨q,rfl⟩:∃q:Nat,k = -(q:Int):=⟨k.natAbs,om⟩
    rw[Int.neg_tdiv,aAB om];simp
  have hkm:(k.tmod 10).natAbs=k.natAbs%10:=by split at hkq<;>omega
  have hkb:(k.tdiv 10).natAbs=k.natAbs/10:=by split at hkq<;>omega
  have hstep:=HI (k:=k.natAbs) om;have hnext:∀b:UInt8,b=UInt8.ofNat (48+k.natAbs%10)->(λa:Int × List UInt8=>a.1.natAbs<=n.natAbs/\(a.1=0\/(a.1<0↔n<0))/\Lib.decDigits n.natAbs=sJ a.1.natAbs++a.2) (k.tdiv 10,b::s):=by
   intro b hb;refine⟨by simp only;omega, ?_, ?_⟩
   .simp only;split at hkq<;>omega
   .simp only;rw[hk3,hstep,hkb,hb];simp
  have hb:i64 (k.tdiv 10):=by
   unfold i64;split at hkq<;>omega
  refine Z ?_;refine aL (λh=>?_) (λh=>?_)
  .have h':k.tmod 10<0:=su h
   have e1:IntKind.i64.wrap (0-k.tmod 10)=((k.natAbs%10:Nat):Int):=Y'
   have hkk:k.natAbs%10<10:=Zr _ H';generalize hd:k.natAbs%10=d at *;have e2:IntKind.i64.wrap ((d:Int)+1)=((d+1:Nat):Int):=Y'
   refine Z ?_;rw[e1];have hd10:d<10:=hkk;rw[e2];have z1:decide (0<=(d:Int))=true:=Y8 om;have z3:(Nat.ble ((d:Nat):Int).toNat ((d+1:Nat):Int).toNat && Nat.ble ((d+1:Nat):Int).toNat Qi.length)=true:=by
    rw[Y1,Y1,Y2 om,Y2 (by show d+1<=10;omega)];rfl
   rw[z1];refine Z ?_;refine aK z3 ?_;refine Z ?_;rw[Lf hd10];refine aK (Y2 B') ?_;refine Z ?_;exact .mk (k.tdiv 10,UInt8.ofNat (48+d)::s) [] (hnext _ rfl) (b9 ⟨aG,aG,aG,⟨_,rfl,.int (bF hb)⟩,trivial⟩) J'
  .have h':¬k.tmod 10<0:=su h
   have e1:k.tmod 10=((k.natAbs%10:Nat):Int):=om;have hkk:k.natAbs%10<10:=Zr _ H';generalize hd:k.natAbs%10=d at *;have e2:IntKind.i64.wrap ((d:Int)+1)=((d+1:Nat):Int):=Y'
   refine Z ?_;rw[e1];have hd10:d<10:=hkk;rw[e2];have z1:decide (0<=(d:Int))=true:=Y8 om;have z3:(Nat.ble ((d:Nat):Int).toNat ((d+1:Nat):Int).toNat && Nat.ble ((d+1:Nat):Int).toNat Qi.length)=true:=by
    rw[Y1,Y1,Y2 om,Y2 (by show d+1<=10;omega)];rfl
   rw[z1];refine Z ?_;refine aK z3 ?_;refine Z ?_;rw[Lf hd10];refine aK (Y2 B') ?_;refine Z ?_;exact .mk (k.tdiv 10,UInt8.ofNat (48+d)::s) [] (hnext _ rfl) (b9 ⟨aG,aG,aG,⟨_,rfl,.int (bF hb)⟩,trivial⟩) J' 
theorem DK{n m:Nat}(h:n<=2 ^ m)(hm:0<m):(dg 10000 n).length<=m:=by
 refine fT hT (aAc h ?_);exact Nat.pow_lt_pow_left om om
theorem Uw(k:Nat)(hk:k<=400000):aU prog [] 224 [.int .i64 k] (fW ((2 ^ k:Nat):Int)):=by
 have e0:∀n:Nat,fW (n:Int) = .agg [.bool false,.il 1 (bX (dg 10000 n))]:=λn=>by rw[eG,ZG om,ZM]
 have h1:=Su ((1:Nat):Int) oq;have h2:=Su ((2:Nat):Int) oq;have hmul:∀a b:Nat,(dg 10000 a).length<=1000000->(dg 10000 b).length<=1000000->aU prog [] 99 [.agg [.bool false,.il 1 (bX (dg 10000 a))],.agg [.bool false,.il 1 (bX (dg 10000 b))]] (.agg [.bool false,.il 1 (bX (dg 10000 (a*b)))]):=λa b ha hb=>by
  have:=R5 (a:Int) (b:Int) (by rw[ZM];exact ha) (by rw[ZM];exact hb);rw[<-Int.natCast_mul,e0,e0,e0] at this;exact this
 rw[e0] at h1 h2 |-;have hL:(2:Nat) ^ k<=2 ^ k:=ZA _;obtain⟨T,hTk⟩:∃T,T=2 ^ k:=cm
 rw[<-hTk];refine aD bI func224 rfl ?_;refine Z ?_;refine h1.go ?_ G' (fO _ _);refine Rt ?_;refine h2.go ?_ G' (fO _ _);refine Rt ?_;refine bJ.at bI (λp:Nat × Nat × Nat=>p.1<=k/\p.2.1*p.2.2 ^ p.1=T/\p.2.2<=2 ^ (2*k+1)/\p.2.1<=T)
  (λp=>⟨[(0,.int .i64 p.1),(2,.ptr 0 0 0),(3,.ptr 1 0 0),(4,.ptr 2 0 0)],[(0,.row 40 2 [.agg [.bool false,.nsl]]),(1,.row 40 2 [.agg [.bool false,.il 1 (bX (dg 10000 p.2.1))]]),(2,.row 40 2 [.agg [.bool false,.il 1 (bX (dg 10000 p.2.2))]])],3,21⟩)
  (λp=>p.1) (k,1,2) [(0,0),(1,1),(2,2)] ⟨ZA _,by simp only;rw[hTk];simp,by simp only;rw[Nat.pow_succ];have:=aAq (n:=2*k) (show 0<2 by omega);omega,by simp only;rw[hTk];exact aAq om⟩
  (aH _ rfl ⟨aF 0 (nN _),aF 1 I',aF 2 I',trivial⟩ ⟨aG,aM,aM,aM,trivial⟩) ?_
 rintro⟨j,a,t⟩ ⟨g1,g2,g3,g4⟩;simp only at g1 g2 g3 g4 |-;have lT:(dg 10000 T).length<=k+1:=DK (by rw[hTk];exact Zo om om) om;have la:(dg 10000 a).length<=k+1:=Zk (cU hT g4) lT;have lt:(dg 10000 t).length<=2*k+1:=DK g3 om;have hT0:0<T:=by rw[hTk];exact aAq om
 by_cases hj:0<j
 .have ht1:t<=T:=by
   rcases ZF a with e|e
   .rw[e] at g2;simp at g2;omega
   .rcases ZF t with e2|e2
    .omega
    .calc t=t ^ 1:=(Nat.pow_one t).symm
      _<=t ^ j:=Zo e2 hj
      _<=a*t ^ j:=Nat.le_mul_of_pos_left _ e
      _=T:=g2
  have htt:t*t<=2 ^ (2*k+1):=by
   have:=Z7 ht1 ht1;rw[hTk,<-Nat.pow_add] at this;exact Zk this (Zo om om)
  have hm2:=hmul t t om om;have e3:((j:Int)).tmod 2=((j%2:Nat):Int):=n6 _ 2;have e4:IntKind.i64.wrap (((j:Int)).tdiv 2)=((j/2:Nat):Int):=by
   rw[show ((j:Int)).tdiv 2=((j/2:Nat):Int) from kJ _ 2,bF oq]
  have e5:decide ((j:Int)>0)=true:=Y8 om;rcases Nat.mod_two_eq_zero_or_one j with e|e
  .have hz:(((0:Nat):Int) == 1)=false:=rfl;have hpow:a*(t*t) ^ (j/2)=T:=by
    rw[<-g2,<-Nat.pow_two,<-Nat.pow_mul];congr 2;omega
   refine Z ?_;rw[e5];refine Z ?_;rw[e3,e];refine Rt ?_;refine hm2.go ?_ bu (fO _ _);refine Rt ?_;exact .mk (j/2,a,t*t) [(0,0),(1,1),(2,2)] ⟨by simp only;omega,hpow,htt,g4⟩
    (aH _ rfl ⟨aF 0 (nN _),aF 1 I',aF 2 I',trivial⟩ ⟨⟨_,rfl,.int e4⟩,aM,aM,aM,trivial⟩) J'
  .have hpow:(a*t)*(t*t) ^ (j/2)=T:=by
    rw[<-g2,Nat.mul_assoc,<-Nat.pow_two,<-Nat.pow_mul];congr 1;rw[show t*t ^ (2*(j/2))=t ^ (2*(j/2)+1) by rw[Nat.pow_succ,ZV]];congr 1;omega
   have hat:a*t<=T:=by
    rw[<-hpow];rcases ZF t with e2|e2
    .rw[e2];simp
    .exact Nat.le_mul_of_pos_right _ (aAq (aAK e2 e2))
   have hm1:=hmul a t om om;refine Z ?_;rw[e5];refine Z ?_;rw[e3,e];refine Rt ?_;refine hm1.go ?_ bu (fO _ _);refine Rt ?_;refine hm2.go ?_ bu (fO _ _);refine Rt ?_;exact .mk (j/2,a*t,t*t) [(0,0),(1,1),(2,2)] ⟨by simp only;omega,hpow,htt,hat⟩
    (aH _ rfl ⟨aF 0 (nN _),aF 1 I',aF 2 I',trivial⟩ ⟨⟨_,rfl,.int e4⟩,aM,aM,aM,trivial⟩) J'
 .have hj0:j=0:=om;subst hj0;have haT:a=T:=su g2
  have e5:decide (((0:Nat):Int)>0)=false:=rfl;rw[<-haT];refine Rt ?_;exact aA (fO _ _) C' 
theorem Tn(z:Int)(hz:(dg 10000 z.natAbs).length<=1000000):aU prog [] 171 [fW z] (.bool (eY z)):=by
 have e0:∀n:Nat,fW (n:Int) = .agg [.bool false,.il 1 (bX (dg 10000 n))]:=λn=>by rw[eG,ZG om,ZM]
 have hp:=Uw 16384 om;have hs:=@Kx z;have hc:=Bc z.natAbs (2 ^ 16384) om;have hf:eY z=decide (fJ (z.natAbs:Int) ((2 ^ 16384:Nat):Int)<0):=by
  unfold eY;rw[Zg];have hl:=G1;rw[hl];generalize 2 ^ 16384=W;unfold fJ;split<;>(try split)<;>omega
 rw[e0] at hp;rw[eG];generalize decide (z<0)=bz;generalize dg 10000 (2 ^ 16384)=lw at *;generalize fJ (z.natAbs:Int) ((2 ^ 16384:Nat):Int)=cj at *;generalize dg 10000 z.natAbs=l at *;refine aD bI func171 rfl ?_;refine Z ?_;rw[aV];refine aL (λhb=>?_) (λhb=>?_)
 .have hlt:l.length<1230:=by have:=Zf hb;omega
  rw[hs hlt];refine Z ?_;exact aA nn C'
 .rw[hf];refine Z ?_;refine hp.go ?_ G' (fO _ _);refine Rt ?_;refine hc.go ?_ cg nn;refine Z ?_;exact aA nn C' 
theorem MI{D:List Nat}{i d:Nat}(h:D[i]? = some d)(hi:i+1<D.length):AO 4 (D.drop i)=AO 4 (D.drop (i+1))++xF 4 d:=by
 obtain⟨h1,h2⟩:=Y4.1 h;rw[List.drop_eq_getElem_cons h1,h2,AO,Y3];intro e;have:=congrArg List.length e;rw[aAg] at this;simp at this;omega
theorem PE{D:List Nat}{i d:Nat}(h:D[i]? = some d)(hi:i+1=D.length):AO 4 (D.drop i)=Lib.decDigits d:=by
 obtain⟨h1,h2⟩:=Y4.1 h;rw[List.drop_eq_getElem_cons h1,h2,AO,Y7 (Zm om)]
theorem Hj:∀(D:List Nat),(∀d∈D,d<10000)->(AO 4 D).length<=4*D.length
 | [],_=>by simp[AO]
 | d::r,h=>by
  rw[AO];split
  .rename_i e;subst e;have:=pM 4 d (h d sq) H';simp;omega
  .have:=Hj r λx hx=>h x (by simp[hx])
   rw[ZB,uJ,ZZ];omega
theorem TT(z:Int)(hz:(dg 10000 z.natAbs).length<=1000000):aU prog [] 93 [fW z] (.str (tX z)):=by
 have hla:=eJ hT z.natAbs;have htx:0<z.natAbs->AO 4 (dg 10000 z.natAbs)=Lib.decDigits z.natAbs:=λh=>SI (k:=4) om z.natAbs h
 have hzero:(dg 10000 z.natAbs).length=0↔z=0:=by
  constructor
  .intro h;have:=(Gw hT).1 (ZH h);omega
  .intro h;rw[h];simp[eA]
 have hdz:tX z=if z<0 then 45::Lib.decDigits z.natAbs else Lib.decDigits z.natAbs:=by
  unfold tX Lib.itoa;split
  .rfl
  .rw[show z.toNat=z.natAbs by omega]
 have hdec:∀d:Nat,d<10000->aU prog [] 164 [.int .i64 d] (.str (Lib.decDigits d)):=λd h=>by
  have:=WN (d:Int) oq;rw[Lib.itoa_nonneg] at this;exact this
 rw[eG,hdz];have hpos:z=0\/0<z.natAbs:=om;have hbz:(if z<0 then 45::Lib.decDigits z.natAbs else Lib.decDigits z.natAbs)=(if decide (z<0)=true then 45::Lib.decDigits z.natAbs else Lib.decDigits z.natAbs):=sq
 rw[hbz];generalize hD:dg 10000 z.natAbs=D at *;generalize hbn:decide (z<0)=bz at *;refine aD bI func93 rfl ?_;by_cases h0:z=0
 .have hl0:=hzero.2 h0;have e1:((D.length:Int) == 0)=true:=by rw[hl0];rfl
  have e2:bz=false:=by rw[<-hbn,h0];rfl
  rw[e2,h0];refine Z ?_;rw[aV,e1];refine Z ?_;exact aA nn ⟨by rw[Y3 sq,show Int.natAbs 0=0 from rfl,Lib.decDigits_one om];rfl,rfl,rfl⟩
 .have hl0:0<D.length:=by have:=hzero.1;omega
  have e1:((D.length:Int) == 0)=false:=by simp;intro h;rw[h] at hl0;simp at hl0
  have htx:=htx om;have hw1:IntKind.i64.wrap ((D.length:Int)-1)=((D.length-1:Nat):Int):=Y'
  obtain⟨t,ht⟩:∃d,D[D.length-1]? = some d:=⟨_,Yz om⟩
  have g1:=vU ht;have hd1:=hdec t (hla _ (Y5 ht));refine Z ?_;rw[aV,e1];refine Z ?_;rw[aV,hw1];refine aC g1 ?_;refine Rt ?_;refine hd1.go ?_ G' nn;refine Z ?_;rw[aV];refine bJ.at bI (λk:Nat=>k+1<=D.length)
   (λk=>⟨[(1,.ptr 0 0 0),(3,.str (AO 4 (D.drop k))),(4,.int .i64 ((k:Int)-1))],[(0,.row 40 2 [.agg [.bool bz,.il 1 (bX D)]])],1,46⟩)
   (λk=>k) (D.length-1) [(0,0)] om
   (aH _ rfl ⟨aF 0 I',trivial⟩ ⟨aM,⟨_,rfl,.eq nn (by rw[PE ht om])⟩,RF,trivial⟩) ?_
  intro k hk;have hlen:=Hj (D.drop k) λd hd=>hla d (Zn hd)
  rw[aAg] at hlen;refine Z ?_;refine aL (λhb=>?_) (λhb=>?_)
  .have hk1:0<k:=by simp at hb;omega
   obtain⟨i,rfl⟩:∃i,k=i+1:=⟨k-1,om⟩
   rw[show (((i+1:Nat):Int)-1)=(i:Int) by omega];obtain⟨u,hu⟩:∃u,D[i]? = some u:=⟨_,Yz om⟩
   have hul:=hla _ (Y5 hu);have g2:=vU hu;have hst:=MI hu om;have hdu:=hdec u hul;have hpe:=Gu 4 u om H';have hl4:=pM 4 u om H';generalize Lib.decDigits u=tu at *;refine Z ?_;refine aC g2 ?_;refine Rt ?_;refine hdu.go ?_ G' nn;refine Z ?_;refine bJ.at bI (λj:Nat=>j+tu.length<=4)
    (λj=>⟨[(1,.ptr 0 0 0),(3,.str (AO 4 (D.drop (i+1)))),(4,.int .i64 i),(5,.str (List.replicate j 48++tu))],[(0,.row 40 2 [.agg [.bool bz,.il 1 (bX D)]])],1,46⟩)
    (λj=>4-j) 0 [(0,0)] om
    (aH _ rfl ⟨aF 0 I',trivial⟩ ⟨aM,aG,aG,aG,trivial⟩) ?_
   intro j hj;have hjl:(List.replicate j 48++tu).length=j+tu.length:=sq
   have hcons:∀(j:Nat),(48:UInt8)::(List.replicate j 48++tu)=List.replicate (j+1) 48++tu:=λj=>rfl
   generalize hs:List.replicate j 48++tu=s at *;refine Z ?_;rw[hjl];refine aL (λhc=>?_) (λhc=>?_)
   .have hc:j+tu.length<4:=by have:=Zf hc;omega
    refine Z ?_;refine aK (Y2 B') ?_;refine Z ?_;exact .mk (j+1) [(0,0)] om
     (aH _ rfl ⟨aF 0 I',trivial⟩ ⟨aM,aG,aG,⟨_,rfl,.eq nn (by rw[<-hs];rfl)⟩,trivial⟩) om
   .have hc:j+tu.length=4:=by have:=aAa hc;omega
    have hsp:s=xF 4 u:=by rw[hpe,<-hs,show 4-tu.length=j by omega]
    refine Z ?_;refine aK (Y2 (by rw[hjl];omega)) ?_;refine Z ?_;exact .mk i [(0,0)] om
     (aH _ rfl ⟨aF 0 I',trivial⟩ ⟨aM,⟨_,rfl,.eq nn (by rw[hst,hsp])⟩,⟨_,rfl,.w64 rfl oq⟩,trivial⟩) om
  .have hk0:k=0:=by simp at hb;omega
   subst hk0;rw[ZT] at hlen;have hd0:D.drop 0=D:=ZT;cases bz
   .refine Z ?_;rw[hd0,htx];exact aA nn ⟨by rw[Y3 sq],rfl,rfl⟩
   .refine Z ?_;rw[hd0,htx];refine aK (Y2 (by rw[<-htx];simp;omega)) ?_;refine Z ?_;exact aA nn ⟨by rw[Y7 rfl];rfl,rfl,rfl⟩
end Go.Proofs.YthggfhnnkclooaaGreatDoor
