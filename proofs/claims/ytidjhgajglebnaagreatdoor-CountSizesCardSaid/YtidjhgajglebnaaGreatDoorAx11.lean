/- A part of the proof. -/
import Derived.Test.YtidjhgajglebnaaGreatDoorAx10
import Derived.Test.YtidjhgajglebnaaGreatDoorProg
import Derived.KernelRfl
set_option linter.unusedVariables false
set_option linter.unusedSimpArgs false
set_option maxRecDepth 1000000
set_option maxHeartbeats 16000000
namespace Go.Proofs.YtidjhgajglebnaaGreatDoor
open Go Go.Ax Go.Proofs Tryz
variable{J:List (Nat × Nat)}{n i k j m d:Nat}{mem:aP}{b:Bool}
def gz:List (Nat × AV):=[(0,.agg [.int .u64 1,.int .u64 10,.int .u64 100,.int .u64 1000,.int .u64 10000,.int .u64 100000,.int .u64 1000000,.int .u64 10000000,.int .u64 100000000,.int .u64 1000000000,.int .u64 10000000000,.int .u64 100000000000,.int .u64 1000000000000,.int .u64 10000000000000,.int .u64 100000000000000,.int .u64 1000000000000000,.int .u64 10000000000000000,.int .u64 100000000000000000,.int .u64 1000000000000000000,.int .u64 10000000000000000000]),(2,.agg [.int .u8 0,.int .u8 1,.int .u8 28,.int .u8 2,.int .u8 29,.int .u8 14,.int .u8 24,.int .u8 3,.int .u8 30,.int .u8 22,.int .u8 20,.int .u8 15,.int .u8 25,.int .u8 17,.int .u8 4,.int .u8 8,.int .u8 31,.int .u8 27,.int .u8 13,.int .u8 23,.int .u8 21,.int .u8 19,.int .u8 16,.int .u8 7,.int .u8 26,.int .u8 12,.int .u8 18,.int .u8 6,.int .u8 11,.int .u8 5,.int .u8 10,.int .u8 9]),(3,.agg [.int .u8 0,.int .u8 1,.int .u8 56,.int .u8 2,.int .u8 57,.int .u8 49,.int .u8 28,.int .u8 3,.int .u8 61,.int .u8 58,.int .u8 42,.int .u8 50,.int .u8 38,.int .u8 29,.int .u8 17,.int .u8 4,.int .u8 62,.int .u8 47,.int .u8 59,.int .u8 36,.int .u8 45,.int .u8 43,.int .u8 51,.int .u8 22,.int .u8 53,.int .u8 39,.int .u8 33,.int .u8 30,.int .u8 24,.int .u8 18,.int .u8 12,.int .u8 5,.int .u8 63,.int .u8 55,.int .u8 48,.int .u8 27,.int .u8 60,.int .u8 41,.int .u8 37,.int .u8 16,.int .u8 46,.int .u8 35,.int .u8 44,.int .u8 21,.int .u8 52,.int .u8 32,.int .u8 23,.int .u8 11,.int .u8 54,.int .u8 26,.int .u8 40,.int .u8 15,.int .u8 34,.int .u8 20,.int .u8 31,.int .u8 10,.int .u8 25,.int .u8 14,.int .u8 19,.int .u8 9,.int .u8 13,.int .u8 8,.int .u8 7,.int .u8 6])]
theorem sC(h:i<n):Nat.blt ((i:Nat):Int).toNat n=true:=aAf (by simp;omega)
theorem Br{l:List Nat}(h:l[i]? = some d):(bR l)[((i:Nat):Int).toNat]? = some (.int .u32 (d:Int)):=by rw[aAc,SC,h];rfl
theorem JH{l:List Nat}(h:l[i]? = some d):(bR l)[0+((i:Nat):Int).toNat]? = some (.int .u32 (d:Int)):=by rw[aAF];exact Br h
theorem QM(h:j<=n):(Nat.ble 0 ((j:Nat):Int).toNat && (Nat.ble ((j:Nat):Int).toNat n && Nat.ble n n))=true:=by
 rw[aAc,aAf (aAN _),aAf h,aAf (aAp _)];rfl
theorem DX(l:List Nat)(hl:l.length<=4294967296):aT prog [] 39 [.il 1 (bR l)] (.il 1 (bR (fY l))):=by
 refine aD bE func39 rfl ?_;refine Rr ?_;refine bA.at bE (λk:Nat=>k<=l.length/\fY (l.take k)=fY l) (λk=>⟨[(0,.il 1 (bR (l.take k)))],[],0,21⟩) (λk=>k) l.length [] ⟨aAp _,by rw[aAD]⟩
  (bX ⟨⟨_,rfl,.eq (.il' (bD _)) (by rw[aAD])⟩,trivial⟩) ?_
 rintro k ⟨hk,ht⟩;refine Rr ?_;have hlk:(bR (l.take k)).length=k:=by rw[aX,aAR];omega
 rw[hlk];refine aI (λhb=>?_) (λhb=>?_)
 .rw[hb];have hk0:0<k:=su hb
  obtain⟨j,rfl⟩:∃j,k=j+1:=⟨k-1,om⟩
  obtain⟨d,hd⟩:∃d,l[j]? = some d:=⟨_,aAa om⟩
  have hw:IntKind.i64.wrap (((j+1:Nat):Int)-1)=(j:Int):=by rw[aV oq];omega
  have hg:(l.take (j+1))[j]? = some d:=by rw[aAL,aAh om];exact hd
  have e1:=Br hg;have hts:fY (l.take (j+1))=if d=0 then fY (l.take j) else l.take (j+1):=by
   have e:=CM hd;rw[e,Ab]
  refine Rr ?_;rw[hlk,hw];refine aB e1 ?_;refine Rt ?_;refine aI (λhc=>?_) (λhc=>?_)
  .have hd0:d=0:=su hc
   refine Rr ?_;rw[hlk,hw];refine aN (QM om) ?_;refine Rr ?_;exact .mk j [] ⟨om,by rw[aAh hd0] at hts;rw[<-hts];exact ht⟩ (bX ⟨⟨_,rfl,.eq (.il' (bD _)) (by simp[bR,<-List.map_take,aCk])⟩,trivial⟩) om
  .refine Rr ?_;have hd0:d≠0:=su hc
   rw[aAe hd0] at hts;rw[<-ht,hts];exact aA (.il' (bD _)) ⟨rfl,rfl,rfl⟩
 .try rw[hb]
  have hk0:k=0:=by simp at hb;omega
  subst hk0;refine Rr ?_;rw[<-ht];exact aA (.il' (bD _)) ⟨rfl,rfl,rfl⟩
theorem ZN(x y:Nat)(hx:(dg 4294967296 x).length<=4294967296):aT prog [] 63 [.il 1 (bR (dg 4294967296 x)),.il 1 (bR (dg 4294967296 y))] (.int .i64 (mI x y)):=by
 refine aD bE func63 rfl ?_;refine Rr ?_;rw[aX,aX];have hB:(2:Nat)<=4294967296:=by decide
 have hla:=fZ hB x;have hlb:=fZ hB y;have hva:=gO hB x;have hvb:=gO hB y;have hL:(dg 4294967296 x).length<(dg 4294967296 y).length->mI (x:Int) y = -1:=λh=>by have:=qX hB h;unfold mI;rw[aAh om]
 have hG:(dg 4294967296 y).length<(dg 4294967296 x).length->mI (x:Int) y=1:=λh=>by have:=qX hB h;unfold mI;rw[aAe om,aAh om]
 generalize dg 4294967296 x=a at *;generalize dg 4294967296 y=b at *;refine aI (λhb=>?_) (λhb=>?_)
 .have hne:a.length≠b.length:=λe=>by rw[e] at hb;simp at hb
  refine Rr ?_;rw[aX,aX];refine aI (λhc=>?_) (λhc=>?_)
  .refine Rr ?_;rw[hL (su hc)];exact aA nn ⟨rfl,rfl,rfl⟩
  .refine Rr ?_;rw[hG (by simp at hc;omega)];exact aA nn ⟨rfl,rfl,rfl⟩
 .have heq:a.length=b.length:=by simp at hb;omega
  refine Rr ?_;refine bA.at bE (λm:Nat=>m<=a.length/\a.drop m=b.drop m) (λm=>⟨[(0,.il 1 (bR a)),(1,.il 1 (bR b)),(5,.int .i64 ((m:Int)-1))],[],0,41⟩) (λm=>m) a.length [] ⟨aAp _,by rw[aBy,heq,aBy]⟩
   (bX ⟨aM (.il' (bD _)),aM (.il' (bD _)),⟨_,rfl,.w64 (by rw[aX]) oq⟩,trivial⟩) ?_
  rintro m ⟨hm,hd⟩;refine Rr ?_;refine aI (λhc=>?_) (λhc=>?_)
  .have hm1:0<m:=by simp at hc;omega
   obtain⟨i,rfl⟩:∃i,m=i+1:=⟨m-1,om⟩
   rw[show (((i+1:Nat):Int)-1)=(i:Int) by omega];obtain⟨u,hu⟩:∃u,a[i]? = some u:=⟨_,aAa om⟩
   obtain⟨v,hv⟩:∃v,b[i]? = some v:=⟨_,aAa om⟩
   have e1:=Br hu;have e2:=Br hv;refine Rr ?_;repeat((first|refine aB e1 ?_|refine aB e2 ?_|refine bQ ?_);refine Rr ?_)
   refine aI (λhc=>?_) (λhc=>?_)
   .have huv:u<v:=by simp at hc;omega
    have:=qP hla hB hd hu hv huv heq;refine Rr ?_;rw[show mI (x:Int) y = -1 by unfold mI;rw[aAh om]];exact aA nn ⟨rfl,rfl,rfl⟩
   .refine Rr ?_;repeat((first|refine aB e1 ?_|refine aB e2 ?_|refine bQ ?_);refine Rr ?_)
    refine aI (λhc2=>?_) (λhc2=>?_)
    .have huv:v<u:=by simp at hc2;omega
     have:=qP hlb hB hd.symm hv hu huv heq.symm;refine Rr ?_;rw[show mI (x:Int) y=1 by unfold mI;rw[aAe om,aAh om]];exact aA nn ⟨rfl,rfl,rfl⟩
    .have huv:u=v:=by simp at hc hc2;omega
     refine Rr ?_;exact .mk i [] ⟨om,by
       obtain⟨h1,h2⟩:=aAg.1 hu;obtain⟨h3,h4⟩:=aAg.1 hv;rw[List.drop_eq_getElem_cons h1,List.drop_eq_getElem_cons h3,h2,h4,huv,hd]⟩
      (bX ⟨aM (.il' (bD _)),aM (.il' (bD _)),⟨_,rfl,.w64 rfl oq⟩,trivial⟩) om
  .have hm0:m=0:=by simp at hc;omega
   subst hm0;simp only[aAJ] at hd;subst hd;refine Rr ?_;rw[show mI (x:Int) y=0 by rw[<-hva,hvb];simp[mI]];exact aA nn ⟨rfl,rfl,rfl⟩
def W7(c:Nat):aP:=[(0,.row 156 1 [.int .u64 (c:Int)])]
theorem BF(x y c:Nat)(hx:x<4294967296)(hy:y<4294967296)(hc:c<4294967296):aH prog [] 174 [.int .u32 x,.int .u32 y,.ptr 0 0 0] (W7 c) 1
  λr m n=>r = .int .u32 (((c+(x+y))%4294967296:Nat):Int)/\m=W7 ((c+(x+y))/4294967296)/\n=1:=by
 have e1:IntKind.u64.wrap (x:Int)=(x:Int):=wF om;have e2:IntKind.u64.wrap (y:Int)=(y:Int):=wF om;have e3:IntKind.u64.wrap ((x:Int)+(y:Int))=((x+y:Nat):Int):=by rw[<-Int.natCast_add];exact wF om
 have e4:IntKind.u64.wrap ((c:Int)+((x+y:Nat):Int))=((c+(x+y):Nat):Int):=by rw[<-Int.natCast_add];exact wF om
 refine aD bE func174 rfl ?_;refine Rr ?_;rw[e1,e2,e3,e4];refine Rr ?_;exact aW (n':=1) (m':=W7 ((c+(x+y))/4294967296)) [(0,0)] rfl ⟨⟨0,_,rfl,rfl,.cons (.one rfl rfl (.int Rg)) .nil⟩,trivial⟩ (.int (Xz _)) ⟨rfl,rfl,rfl⟩
theorem C5{a c:Bool}{bytes:Nat}(ha:a=true)(hb:b=true)(hc:c=true)(h:n<=4294967296)(hby:Nat.ble bytes 4096=true):
  (a && (b && (c && (decide (0<=(n:Int)) && (decide ((n:Int)<=n) && (decide ((bytes:Int)*n<=281474976710656) && decide ((n:Int)<=9223372036854775807)))))))=true:=by
 have hby:=aAi hby;have h3:bytes*n<=4096*4294967296:=aBn hby h;have h4:((bytes:Nat):Int)*(n:Int)=((bytes*n:Nat):Int):=sq
 rw[ha,hb,hc,h4,aAn om,aAn om,aAn om,aAn om];rfl
theorem Dd(k:IntKind)(n:Int):kZ [.int k n]:=λa ha=>by
 rw[aBa.1 ha];exact .int _ _
theorem O8{s:List Nat}(h:s.length<n):(bR (g6 s n))[0+((s.length:Nat):Int).toNat]? = some (.int .u32 0):=JH (QI h)
theorem OA{s:List Nat}(h:s.length<n):(bR (g6 s n)).set (0+((s.length:Nat):Int).toNat) (.int .u32 (d:Int))=bR (g6 (s++[d]) n):=by
 rw[aAc,aAF,tQ,QX h]
theorem kE{P:Nat->Prop}{l:List Nat}(h:∀x∈l,P x)(hd:P d):∀x∈l++[d],P x:=λx hx=>by
 rcases aAt.1 hx with hx|hx
 .exact h x hx
 .rw[aBa.1 hx];exact hd
theorem XY(X Y:List Nat)(hX:∀d∈X,d<4294967296)(hY:∀d∈Y,d<4294967296)(hx:X.length<=1000000)(hy:Y.length<=1000000):aT prog [] 104 [.il 1 (bR X),.il 1 (bR Y)] (.il 1 (bR (dg 4294967296 (vl 4294967296 X+vl 4294967296 Y)))):=by
 have hB:(2:Nat)<=4294967296:=by decide
 refine aD bE func104 rfl ?_;refine Rr ?_;rw[aX,aX];rcases aAr X.length Y.length with hxy|hxy
 .rw[aAn om];obtain⟨S,hS⟩:∃S,S=vl 4294967296 X+vl 4294967296 Y:=⟨_,rfl⟩
  rw[<-hS];have hla:=hY;have hlb:=hX;have hsum:vl 4294967296 Y+vl 4294967296 X=S:=om;generalize Y=a at *;generalize X=b at *;have hx:=hy;refine Rr ?_;have hw1:IntKind.i64.wrap (((bR a).length:Int)+1)=((a.length+1:Nat):Int):=by rw[aX,aV oq];omega
  rw[hw1];refine aN (C5 rfl rfl rfl om rfl) ?_;refine Rt ?_;refine bA.at bE (λp:List Nat × Nat=>p.1.length<=b.length/\(∀d∈p.1,d<4294967296)/\p.2<=1/\vl 4294967296 p.1+4294967296 ^ p.1.length*p.2=vl 4294967296 (a.take p.1.length)+vl 4294967296 (b.take p.1.length))
   (λp=>⟨[(0,.il 1 (bR a)),(1,.il 1 (bR b)),(5,.sl 0 0 (a.length+1)),(6,.ptr 1 0 0),(7,.fn (.func 174) [] [.ptr 1 0 0]),(23,.int .i64 b.length),(24,.int .i64 p.1.length)],[(0,.row 81 1 (bR (g6 p.1 (a.length+1)))),(1,.row 156 1 [.int .u64 (p.2:Int)])],2,66⟩)
   (λp=>b.length-p.1.length) ([],0) [(0,0),(1,1)] ⟨sq,sq,sq,by simp[vl]⟩
   (aE _ rfl ⟨⟨0,_,rfl,rfl,.eq (bD _) (by simp[bR,g6])⟩,aL 1 (Dd _ _),trivial⟩
    ⟨aM (.il' (bD _)),aM (.il' (bD _)),⟨_,rfl,.slE rfl sq⟩,aF,⟨_,rfl,(.fn _ _ _ _ _ rfl rfl sq (jB.cons (.ptr 1 1 0 0 rfl) .nil).2)⟩,⟨_,rfl,.int (by rw[aX])⟩,aJ,trivial⟩) ?_
  rintro⟨s,c⟩ ⟨h1,h2,h3,h4⟩;simp only at h1 h2 h3 h4 |-;refine Rr ?_;refine aI (λhb=>?_) (λhb=>?_)
  .have hlt:s.length<b.length:=su hb
   obtain⟨u,hu⟩:∃u,a[s.length]? = some u:=⟨_,aAa om⟩
   obtain⟨v,hv⟩:∃v,b[s.length]? = some v:=⟨_,aAa om⟩
   have hul:=hla _ (aAm hu);have hvl:=hlb _ (aAm hv);have g1:=Br hu;have g2:=Br hv;have g3:=O8 (s:=s) (n:=a.length+1) om;have bi:=sC (i:=s.length) (n:=a.length+1) om;refine Rr ?_;repeat((first|refine aB g1 ?_|refine aB g2 ?_|refine bQ ?_);refine Rr ?_)
   refine aH.useN bE [(1,0)] (BF u v c hul hvl om) rfl (.s (.s (.cons (.ptr 1 0 0 0 rfl) .nil))) ⟨aL 1 (Dd _ _),trivial⟩ rfl ?_;rintro r' m' n' ⟨rfl,rfl,rfl⟩;refine⟨[(0,1)],_,[(1,.row 156 1 [.int .u64 (((c+(u+v))/4294967296:Nat):Int)])],16,.same _ nn,⟨aL 0 (Dd _ _),trivial⟩,rfl, ?_⟩;refine Rt ?_;repeat((first|refine aN bi ?_|refine aB g3 ?_);refine Rt ?_)
   have hstep:=wH (B:=4294967296) (by decide) (s:=s) (x:=u) (y:=v) rfl h4;have hdv:(c+(u+v))/4294967296<=1:=om;have hmd:(c+(u+v))%4294967296<4294967296:=aBt _ (by decide);exact .mk (s++[(c+(u+v))%4294967296],(c+(u+v))/4294967296) [(0,0),(1,1)] ⟨by simp;omega,kE h2 hmd,hdv,by simp only[aAA,aA7];rw[jZ hu,jZ hv];exact hstep⟩
    (aE _ rfl ⟨⟨0,_,rfl,rfl,.eq (bD _) (OA om)⟩,aL 1 (Dd _ _),trivial⟩
     ⟨aM (.il' (bD _)),aM (.il' (bD _)),⟨_,rfl,.slE rfl rfl⟩,aF,⟨_,rfl,(.fn _ _ _ _ _ rfl rfl sq (jB.cons (.ptr 1 1 0 0 rfl) .nil).2)⟩,aJ,⟨_,rfl,.w64 sq ⟨by simp;omega,by simp;omega⟩⟩,trivial⟩) (by simp;omega)
  .skip;have hlt:s.length=b.length:=by simp at hb;omega
   rw[hlt,aAD] at h4;refine Rr ?_;refine bA.at bE (λp:List Nat × Nat=>b.length<=p.1.length/\p.1.length<=a.length/\(∀d∈p.1,d<4294967296)/\p.2<=1/\vl 4294967296 p.1+4294967296 ^ p.1.length*p.2=vl 4294967296 (a.take p.1.length)+vl 4294967296 b)
    (λp=>⟨[(0,.il 1 (bR a)),(5,.sl 0 0 (a.length+1)),(6,.ptr 1 0 0),(7,.fn (.func 174) [] [.ptr 1 0 0]),(9,.int .i64 p.1.length)],[(0,.row 81 1 (bR (g6 p.1 (a.length+1)))),(1,.row 156 1 [.int .u64 (p.2:Int)])],2,66⟩)
    (λp=>a.length-p.1.length) (s,c) [(0,0),(1,1)] ⟨by simp only;omega,by simp only;omega,h2,h3,by simp only;rw[hlt];exact h4⟩
    (aE _ rfl ⟨aL 0 (bD _),aL 1 (Dd _ _),trivial⟩
     ⟨aM (.il' (bD _)),⟨_,rfl,.slE rfl rfl⟩,aF,⟨_,rfl,(.fn _ _ _ _ _ rfl rfl sq (jB.cons (.ptr 1 1 0 0 rfl) .nil).2)⟩,⟨_,rfl,.int (by rw[aX,hlt])⟩,trivial⟩) ?_
   clear h1 h2 h3 h4 hlt hb s c;rintro⟨s,c⟩ ⟨h0,h1,h2,h3,h4⟩;simp only at h0 h1 h2 h3 h4 |-;refine Rr ?_;rw[aX];refine aI (λhb=>?_) (λhb=>?_)
   .have hlt:s.length<a.length:=su hb
    obtain⟨u,hu⟩:∃u,a[s.length]? = some u:=⟨_,aAa om⟩
    have hul:=hla _ (aAm hu);have g1:=Br hu;have g3:=O8 (s:=s) (n:=a.length+1) om;have bi:=sC (i:=s.length) (n:=a.length+1) om;refine Rr ?_;repeat((first|refine aB g1 ?_|refine bQ ?_);refine Rr ?_)
    refine aH.useN bE [(1,0)] (BF u 0 c hul (by decide) om) rfl (.s (.s (.cons (.ptr 1 0 0 0 rfl) .nil))) ⟨aL 1 (Dd _ _),trivial⟩ rfl ?_;rintro r' m' n' ⟨rfl,rfl,rfl⟩;refine⟨[(0,1)],_,[(1,.row 156 1 [.int .u64 (((c+(u+0))/4294967296:Nat):Int)])],2,.same _ nn,⟨aL 0 (Dd _ _),trivial⟩,rfl, ?_⟩;refine Rt ?_;repeat((first|refine aN bi ?_|refine aB g3 ?_);refine Rt ?_)
    have hstep:=wH (B:=4294967296) (by decide) (s:=s) (x:=u) (y:=0) rfl h4;have hdv:(c+(u+0))/4294967296<=1:=om;have hmd:(c+(u+0))%4294967296<4294967296:=aBt _ (by decide);exact .mk (s++[(c+(u+0))%4294967296],(c+(u+0))/4294967296) [(0,0),(1,1)] ⟨by simp;omega,by simp;omega,kE h2 hmd,hdv,by simp only[aAA,aA7];rw[jZ hu];simpa using hstep⟩
     (aE _ rfl ⟨⟨0,_,rfl,rfl,.eq (bD _) (OA om)⟩,aL 1 (Dd _ _),trivial⟩
      ⟨aM (.il' (bD _)),⟨_,rfl,.slE rfl rfl⟩,aF,⟨_,rfl,(.fn _ _ _ _ _ rfl rfl sq (jB.cons (.ptr 1 1 0 0 rfl) .nil).2)⟩,⟨_,rfl,.w64 sq ⟨by simp;omega,by simp;omega⟩⟩,trivial⟩) (by simp;omega)
   .have hlt:s.length=a.length:=by simp at hb;omega
    rw[hlt,aAD,hsum] at h4;have bi:=sC (i:=s.length) (n:=s.length+1) om;have g3:=O8 (s:=s) (n:=s.length+1) om;have hcw:IntKind.u32.wrap (c:Int)=(c:Int):=Pf om;have hz:fY (s++[c])=dg 4294967296 S:=by
     rw[lD hB _ (kE h2 om),BD,hlt,h4]
    refine Rr ?_;rw[aX,<-hlt];refine Rs ?_;repeat((first|refine aN bi ?_|refine aB g3 ?_);refine Rt ?_)
    refine aH.pre bE [] (mem':=[]) rfl trivial (.cons (.fz' (id:=0) (ys:=bR (s++[c])) rfl rfl (by simp[aX,mW]) (by
     rw[hcw,OA om,aAJ,aAk (by rw[aX,mW]<;>simp)];simp[g6]) (bD _)) .nil) ?_
    refine(DX (s++[c]) (by simp;omega)).go ?_ (.cons (.il' (bD _)) .nil) (.il' (bD _));rw[hz];refine Rr ?_;exact aA (.il' (bD _)) ⟨rfl,rfl,rfl⟩
 .rw[aAw om];obtain⟨S,hS⟩:∃S,S=vl 4294967296 X+vl 4294967296 Y:=⟨_,rfl⟩
  rw[<-hS];have hla:=hX;have hlb:=hY;have hsum:vl 4294967296 X+vl 4294967296 Y=S:=om;generalize X=a at *;generalize Y=b at *;refine Rr ?_;have hw1:IntKind.i64.wrap (((bR a).length:Int)+1)=((a.length+1:Nat):Int):=by rw[aX,aV oq];omega
  rw[hw1];refine aN (C5 rfl rfl rfl om rfl) ?_;refine Rt ?_;refine bA.at bE (λp:List Nat × Nat=>p.1.length<=b.length/\(∀d∈p.1,d<4294967296)/\p.2<=1/\vl 4294967296 p.1+4294967296 ^ p.1.length*p.2=vl 4294967296 (a.take p.1.length)+vl 4294967296 (b.take p.1.length))
   (λp=>⟨[(0,.il 1 (bR a)),(1,.il 1 (bR b)),(5,.sl 0 0 (a.length+1)),(6,.ptr 1 0 0),(7,.fn (.func 174) [] [.ptr 1 0 0]),(23,.int .i64 b.length),(24,.int .i64 p.1.length)],[(0,.row 81 1 (bR (g6 p.1 (a.length+1)))),(1,.row 156 1 [.int .u64 (p.2:Int)])],2,66⟩)
   (λp=>b.length-p.1.length) ([],0) [(0,0),(1,1)] ⟨sq,sq,sq,by simp[vl]⟩
   (aE _ rfl ⟨⟨0,_,rfl,rfl,.eq (bD _) (by simp[bR,g6])⟩,aL 1 (Dd _ _),trivial⟩
    ⟨aM (.il' (bD _)),aM (.il' (bD _)),⟨_,rfl,.slE rfl sq⟩,aF,⟨_,rfl,(.fn _ _ _ _ _ rfl rfl sq (jB.cons (.ptr 1 1 0 0 rfl) .nil).2)⟩,⟨_,rfl,.int (by rw[aX])⟩,aJ,trivial⟩) ?_
  rintro⟨s,c⟩ ⟨h1,h2,h3,h4⟩;simp only at h1 h2 h3 h4 |-;refine Rr ?_;refine aI (λhb=>?_) (λhb=>?_)
  .have hlt:s.length<b.length:=su hb
   obtain⟨u,hu⟩:∃u,a[s.length]? = some u:=⟨_,aAa om⟩
   obtain⟨v,hv⟩:∃v,b[s.length]? = some v:=⟨_,aAa om⟩
   have hul:=hla _ (aAm hu);have hvl:=hlb _ (aAm hv);have g1:=Br hu;have g2:=Br hv;have g3:=O8 (s:=s) (n:=a.length+1) om;have bi:=sC (i:=s.length) (n:=a.length+1) om;refine Rr ?_;repeat((first|refine aB g1 ?_|refine aB g2 ?_|refine bQ ?_);refine Rr ?_)
   refine aH.useN bE [(1,0)] (BF u v c hul hvl om) rfl (.s (.s (.cons (.ptr 1 0 0 0 rfl) .nil))) ⟨aL 1 (Dd _ _),trivial⟩ rfl ?_;rintro r' m' n' ⟨rfl,rfl,rfl⟩;refine⟨[(0,1)],_,[(1,.row 156 1 [.int .u64 (((c+(u+v))/4294967296:Nat):Int)])],16,.same _ nn,⟨aL 0 (Dd _ _),trivial⟩,rfl, ?_⟩;refine Rt ?_;repeat((first|refine aN bi ?_|refine aB g3 ?_);refine Rt ?_)
   have hstep:=wH (B:=4294967296) (by decide) (s:=s) (x:=u) (y:=v) rfl h4;have hdv:(c+(u+v))/4294967296<=1:=om;have hmd:(c+(u+v))%4294967296<4294967296:=aBt _ (by decide);exact .mk (s++[(c+(u+v))%4294967296],(c+(u+v))/4294967296) [(0,0),(1,1)] ⟨by simp;omega,kE h2 hmd,hdv,by simp only[aAA,aA7];rw[jZ hu,jZ hv];exact hstep⟩
    (aE _ rfl ⟨⟨0,_,rfl,rfl,.eq (bD _) (OA om)⟩,aL 1 (Dd _ _),trivial⟩
     ⟨aM (.il' (bD _)),aM (.il' (bD _)),⟨_,rfl,.slE rfl rfl⟩,aF,⟨_,rfl,(.fn _ _ _ _ _ rfl rfl sq (jB.cons (.ptr 1 1 0 0 rfl) .nil).2)⟩,aJ,⟨_,rfl,.w64 sq ⟨by simp;omega,by simp;omega⟩⟩,trivial⟩) (by simp;omega)
  .skip;have hlt:s.length=b.length:=by simp at hb;omega
   rw[hlt,aAD] at h4;refine Rr ?_;refine bA.at bE (λp:List Nat × Nat=>b.length<=p.1.length/\p.1.length<=a.length/\(∀d∈p.1,d<4294967296)/\p.2<=1/\vl 4294967296 p.1+4294967296 ^ p.1.length*p.2=vl 4294967296 (a.take p.1.length)+vl 4294967296 b)
    (λp=>⟨[(0,.il 1 (bR a)),(5,.sl 0 0 (a.length+1)),(6,.ptr 1 0 0),(7,.fn (.func 174) [] [.ptr 1 0 0]),(9,.int .i64 p.1.length)],[(0,.row 81 1 (bR (g6 p.1 (a.length+1)))),(1,.row 156 1 [.int .u64 (p.2:Int)])],2,66⟩)
    (λp=>a.length-p.1.length) (s,c) [(0,0),(1,1)] ⟨by simp only;omega,by simp only;omega,h2,h3,by simp only;rw[hlt];exact h4⟩
    (aE _ rfl ⟨aL 0 (bD _),aL 1 (Dd _ _),trivial⟩
     ⟨aM (.il' (bD _)),⟨_,rfl,.slE rfl rfl⟩,aF,⟨_,rfl,(.fn _ _ _ _ _ rfl rfl sq (jB.cons (.ptr 1 1 0 0 rfl) .nil).2)⟩,⟨_,rfl,.int (by rw[aX,hlt])⟩,trivial⟩) ?_
   clear h1 h2 h3 h4 hlt hb s c;rintro⟨s,c⟩ ⟨h0,h1,h2,h3,h4⟩;simp only at h0 h1 h2 h3 h4 |-;refine Rr ?_;rw[aX];refine aI (λhb=>?_) (λhb=>?_)
   .have hlt:s.length<a.length:=su hb
    obtain⟨u,hu⟩:∃u,a[s.length]? = some u:=⟨_,aAa om⟩
    have hul:=hla _ (aAm hu);have g1:=Br hu;have g3:=O8 (s:=s) (n:=a.length+1) om;have bi:=sC (i:=s.length) (n:=a.length+1) om;refine Rr ?_;repeat((first|refine aB g1 ?_|refine bQ ?_);refine Rr ?_)
    refine aH.useN bE [(1,0)] (BF u 0 c hul (by decide) om) rfl (.s (.s (.cons (.ptr 1 0 0 0 rfl) .nil))) ⟨aL 1 (Dd _ _),trivial⟩ rfl ?_;rintro r' m' n' ⟨rfl,rfl,rfl⟩;refine⟨[(0,1)],_,[(1,.row 156 1 [.int .u64 (((c+(u+0))/4294967296:Nat):Int)])],2,.same _ nn,⟨aL 0 (Dd _ _),trivial⟩,rfl, ?_⟩;refine Rt ?_;repeat((first|refine aN bi ?_|refine aB g3 ?_);refine Rt ?_)
    have hstep:=wH (B:=4294967296) (by decide) (s:=s) (x:=u) (y:=0) rfl h4;have hdv:(c+(u+0))/4294967296<=1:=om;have hmd:(c+(u+0))%4294967296<4294967296:=aBt _ (by decide);exact .mk (s++[(c+(u+0))%4294967296],(c+(u+0))/4294967296) [(0,0),(1,1)] ⟨by simp;omega,by simp;omega,kE h2 hmd,hdv,by simp only[aAA,aA7];rw[jZ hu];simpa using hstep⟩
     (aE _ rfl ⟨⟨0,_,rfl,rfl,.eq (bD _) (OA om)⟩,aL 1 (Dd _ _),trivial⟩
      ⟨aM (.il' (bD _)),⟨_,rfl,.slE rfl rfl⟩,aF,⟨_,rfl,(.fn _ _ _ _ _ rfl rfl sq (jB.cons (.ptr 1 1 0 0 rfl) .nil).2)⟩,⟨_,rfl,.w64 sq ⟨by simp;omega,by simp;omega⟩⟩,trivial⟩) (by simp;omega)
   .have hlt:s.length=a.length:=by simp at hb;omega
    rw[hlt,aAD,hsum] at h4;have bi:=sC (i:=s.length) (n:=s.length+1) om;have g3:=O8 (s:=s) (n:=s.length+1) om;have hcw:IntKind.u32.wrap (c:Int)=(c:Int):=Pf om;have hz:fY (s++[c])=dg 4294967296 S:=by
     rw[lD hB _ (kE h2 om),BD,hlt,h4]
    refine Rr ?_;rw[aX,<-hlt];refine Rs ?_;repeat((first|refine aN bi ?_|refine aB g3 ?_);refine Rt ?_)
    refine aH.pre bE [] (mem':=[]) rfl trivial (.cons (.fz' (id:=0) (ys:=bR (s++[c])) rfl rfl (by simp[aX,mW]) (by
     rw[hcw,OA om,aAJ,aAk (by rw[aX,mW]<;>simp)];simp[g6]) (bD _)) .nil) ?_
    refine(DX (s++[c]) (by simp;omega)).go ?_ (.cons (.il' (bD _)) .nil) (.il' (bD _));rw[hz];refine Rr ?_;exact aA (.il' (bD _)) ⟨rfl,rfl,rfl⟩
theorem Zk(x y:Nat)(hx:(dg 4294967296 x).length<=1000000)(hy:(dg 4294967296 y).length<=1000000):aT prog [] 104 [.il 1 (bR (dg 4294967296 x)),.il 1 (bR (dg 4294967296 y))] (.il 1 (bR (dg 4294967296 (x+y)))):=by
 have hB:(2:Nat)<=4294967296:=by decide
 have h:=XY _ _ (fZ hB x) (fZ hB y) hx hy;rw[gO hB,gO hB] at h;exact h
def KY(b n:Nat)(l:List Nat):aP:=[(0,.row 156 1 [.int .u64 (b:Int)]),(1,.row 31 1 [.sl 2 0 n]),(2,.row 81 1 (bR l))]
theorem tC(h:lk J i=some j)(e:n=m):sH mem J [.sl i 0 n] [.sl j 0 m]:=.cons (.one rfl rfl (.slE h e)) .nil
theorem ZC{x y b:Nat}(hx:x<4294967296)(hy:y<4294967296)(hb:b<=1):IntKind.u32.wrap ((x:Int)-IntKind.u32.wrap ((y+b:Nat):Int))=((if y+b>x then x+4294967296-(y+b) else x-(y+b):Nat):Int):=by
 rw[Xz,Jw];split<;>omega
theorem Ke(l:List Nat)(i x y b n:Nat)(hn:l.length=n)(hi:l[i]? = some x)(hx:x<4294967296)(hy:y<4294967296)(hb:b<=1)(hnn:n<=1000000) :
  aH prog [] 175 [.int .i64 i,.int .u32 y,.ptr 0 0 0,.ptr 1 0 0] (KY b n l) 3
  λr m k=>r = .tup []/\m=KY (if y+b>x then 1 else 0) n (l.set i (if y+b>x then x+4294967296-(y+b) else x-(y+b)))/\k=3:=by
 have hil:=(aAg.1 hi).1;have e1:IntKind.u64.wrap (y:Int)=(y:Int):=wF om;have e2:IntKind.u64.wrap ((y:Int)+(b:Int))=((y+b:Nat):Int):=by rw[<-Int.natCast_add];exact wF om
 have e3:IntKind.u64.wrap (x:Int)=(x:Int):=wF om;have g:=JH hi;have bi:=sC (i:=i) (n:=n) om;refine aD bE func175 rfl ?_;refine Rr ?_;rw[e1,e2];repeat((first|refine aN bi ?_|refine aB g ?_|refine bQ ?_);refine Rr ?_)
 rw[e3];have hW:=ZC hx hy hb;refine aI (λhc=>?_) (λhc=>?_)
 all_goals
  refine Rt ?_;repeat((first|refine aN bi ?_|refine aB g ?_);refine Rt ?_)
 .have hc:y+b>x:=by simp at hc;omega
  rw[aAh hc] at hW |-;rw[aAh hc];exact aW (n':=3) (m':=KY 1 n (l.set i (x+4294967296-(y+b)))) [(0,0),(1,1),(2,2)] rfl ⟨aL 0 (Dd _ _),⟨1,_,rfl,rfl,tC rfl rfl⟩,⟨2,_,rfl,rfl,.eq (bD _) (by rw[hW,aAc,aAF,tQ])⟩,trivial⟩ (.same _ nn) ⟨rfl,rfl,rfl⟩
 .have hc:¬y+b>x:=by simp at hc;omega
  rw[aAe hc] at hW |-;rw[aAe hc];exact aW (n':=3) (m':=KY 0 n (l.set i (x-(y+b)))) [(0,0),(1,1),(2,2)] rfl ⟨aL 0 (Dd _ _),⟨1,_,rfl,rfl,tC rfl rfl⟩,⟨2,_,rfl,rfl,.eq (bD _) (by rw[hW,aAc,aAF,tQ])⟩,trivial⟩ (.same _ nn) ⟨rfl,rfl,rfl⟩
theorem xK(B:Nat)(a:List Nat)(i:Nat)(hi:i<=a.length):vl B a=vl B (a.take i)+B ^ i*vl B (a.drop i):=Mx B a i hi
theorem Nh{s a:List Nat}{u:Nat}(h:a[s.length]? = some u):(s++a.drop s.length)[s.length]? = some u:=by
 rw[aAW (aAp _),aCZ,aAV,aBo];exact h
theorem Mh{s a:List Nat}{u:Nat}(h:a[s.length]? = some u)(d:Nat):(s++a.drop s.length).set s.length d=(s++[d])++a.drop (s++[d]).length:=by
 obtain⟨h1,h2⟩:=aAg.1 h;rw[aCo _ _ (aAp _),aCZ,List.drop_eq_getElem_cons h1,aCD,aAA,aA7];simp
theorem Vq{a:Bool}(ha:a=true)(hb:b=true)(h1:n<=m)(h2:m<=k):(a && (b && (Nat.ble n m && Nat.ble m k)))=true:=by
 rw[ha,hb,aAf h1,aAf h2];rfl
theorem YT(x y:Nat)(hxy:y<=x)(hx:(dg 4294967296 x).length<=1000000):aT prog [] 105 [.il 1 (bR (dg 4294967296 x)),.il 1 (bR (dg 4294967296 y))] (.il 1 (bR (dg 4294967296 (x-y)))):=by
 have hB:(2:Nat)<=4294967296:=by decide
 have hla:=fZ hB x;have hlb:=fZ hB y;have hva:=gO hB x;have hvb:=gO hB y;have hlen:(dg 4294967296 y).length<=(dg 4294967296 x).length:=fJ hB hxy;generalize dg 4294967296 x=a at *;generalize dg 4294967296 y=b at *;refine aD bE func105 rfl ?_;refine Rr ?_;rw[aX];refine aN (C5 rfl rfl rfl om rfl) ?_;refine Rt ?_;refine aN (Vq rfl rfl (by rw[aX,aAc];omega) (by rw[aA9];omega)) ?_;refine Rt ?_;refine bA.at bE (λp:List Nat × Nat=>p.1.length<=b.length/\(∀d∈p.1,d<4294967296)/\p.2<=1/\vl 4294967296 p.1+vl 4294967296 (b.take p.1.length)=vl 4294967296 (a.take p.1.length)+4294967296 ^ p.1.length*p.2)
  (λp=>⟨[(1,.il 1 (bR b)),(5,.ptr 1 0 0),(6,.ptr 0 0 0),(7,.fn (.func 175) [] [.ptr 0 0 0,.ptr 1 0 0]),(18,.il 1 (bR b)),(19,.int .i64 b.length),(20,.int .i64 p.1.length)],KY p.2 a.length (p.1++a.drop p.1.length),3,47⟩)
  (λp=>b.length-p.1.length) ([],0) [(2,0),(1,1),(0,2)] ⟨sq,sq,sq,by simp[vl]⟩
  (aE _ rfl ⟨aL 2 (Dd _ _),⟨1,_,rfl,rfl,tC rfl sq⟩,⟨0,_,rfl,rfl,.eq (bD _) (by simp[bR])⟩,trivial⟩
   ⟨aM (.il' (bD _)),aF,aF,⟨_,rfl,(.fn _ _ _ _ _ rfl rfl sq (jB.cons (.ptr 2 0 0 0 rfl) (.cons (.ptr 1 1 0 0 rfl) .nil)).2)⟩,aM (.il' (bD _)),⟨_,rfl,.int (by rw[aX])⟩,aJ,trivial⟩) ?_
 rintro⟨s,c⟩ ⟨h1,h2,h3,h4⟩;simp only at h1 h2 h3 h4 |-;refine Rr ?_;refine aI (λhb=>?_) (λhb=>?_)
 .have hlt:s.length<b.length:=su hb
  obtain⟨u,hu⟩:∃u,a[s.length]? = some u:=⟨_,aAa om⟩
  obtain⟨v,hv⟩:∃v,b[s.length]? = some v:=⟨_,aAa om⟩
  have hul:=hla _ (aAm hu);have hvl:=hlb _ (aAm hv);have g2:=Br hv;have hll:(s++a.drop s.length).length=a.length:=by simp;omega
  refine Rr ?_;repeat((first|refine aB g2 ?_|refine bQ ?_);refine Rr ?_)
  refine aH.useN bE [(0,0),(1,1),(2,2)] (Ke _ s.length u v c a.length hll (Nh hu) hul hvl h3 om) rfl (.s (.s (.cons (.ptr 0 0 0 0 rfl) (.cons (.ptr 1 1 0 0 rfl) .nil)))) ⟨aL 0 (Dd _ _),⟨1,_,rfl,rfl,tC rfl rfl⟩,aL 2 (bD _),trivial⟩ rfl ?_;rintro r' m' n' ⟨rfl,rfl,rfl⟩;rw[Mh hu];have hstep:=E8 (B:=4294967296) (s:=s) (x:=u) (y:=v) (b:=c) rfl h4 hul hvl h3;have hdg:=C1 (B:=4294967296) (x:=u) (y:=v) (b:=c) hul hvl h3;generalize (if v+c>u then u+4294967296-(v+c) else u-(v+c))=d at hstep hdg |-;have hbo:(if v+c>u then 1 else 0)<=1:=by split<;>omega
  generalize (if v+c>u then 1 else 0)=bo at hstep hbo |-;refine⟨[(0,0),(1,1),(2,2)],_,KY bo a.length ((s++[d])++a.drop (s++[d]).length),3,.same _ nn,⟨aL 0 (Dd _ _),⟨1,_,rfl,rfl,tC rfl rfl⟩,aL 2 (bD _),trivial⟩,rfl, ?_⟩;refine Rr ?_;exact .mk (s++[d],bo) [(0,0),(1,1),(2,2)] ⟨by simp;omega,kE h2 hdg,hbo,by simp only[aAA,aA7];rw[jZ hu,jZ hv];exact hstep⟩
   (aE _ rfl ⟨aL 0 (Dd _ _),⟨1,_,rfl,rfl,tC rfl rfl⟩,aL 2 (bD _),trivial⟩
    ⟨aM (.il' (bD _)),aF,aF,⟨_,rfl,(.fn _ _ _ _ _ rfl rfl sq (jB.cons (.ptr 0 0 0 0 rfl) (.cons (.ptr 1 1 0 0 rfl) .nil)).2)⟩,aM (.il' (bD _)),aJ,⟨_,rfl,.w64 sq ⟨by simp;omega,by simp;omega⟩⟩,trivial⟩) (by simp;omega)
 .have hlt:s.length=b.length:=by simp at hb;omega
  rw[hlt,aAD,hvb] at h4;refine Rr ?_;refine bA.at bE (λp:List Nat × Nat=>p.1.length<=a.length/\(∀d∈p.1,d<4294967296)/\p.2<=1/\vl 4294967296 p.1+y=vl 4294967296 (a.take p.1.length)+4294967296 ^ p.1.length*p.2)
   (λp=>⟨[(5,.ptr 1 0 0),(6,.ptr 0 0 0),(7,.fn (.func 175) [] [.ptr 0 0 0,.ptr 1 0 0]),(10,.int .i64 p.1.length)],KY p.2 a.length (p.1++a.drop p.1.length),3,47⟩)
   (λp=>a.length-p.1.length) (s,c) [(0,0),(1,1),(2,2)] ⟨by simp only;omega,h2,h3,by simp only;rw[hlt];exact h4⟩
   (aE _ rfl ⟨aL 0 (Dd _ _),⟨1,_,rfl,rfl,tC rfl rfl⟩,aL 2 (bD _),trivial⟩
    ⟨aF,aF,⟨_,rfl,(.fn _ _ _ _ _ rfl rfl sq (jB.cons (.ptr 0 0 0 0 rfl) (.cons (.ptr 1 1 0 0 rfl) .nil)).2)⟩,⟨_,rfl,.int (by rw[aX,hlt])⟩,trivial⟩) ?_
  clear h1 h2 h3 h4 hlt hb s c;rintro⟨s,c⟩ ⟨h1,h2,h3,h4⟩;simp only at h1 h2 h3 h4 |-;refine Rr ?_;have hsp:=xK 4294967296 a s.length h1;refine aI (λhb=>?_) (λhb=>?_)
  .rw[hb];have hlt:s.length<a.length:=su hb
   refine Rr ?_;refine aI (λhc=>?_) (λhc=>?_)
   .obtain⟨u,hu⟩:∃u,a[s.length]? = some u:=⟨_,aAa om⟩
    have hul:=hla _ (aAm hu);have hll:(s++a.drop s.length).length=a.length:=by simp;omega
    refine Rt ?_;refine aH.useN bE [(0,0),(1,1),(2,2)] (Ke _ s.length u 0 c a.length hll (Nh hu) hul (by decide) h3 om) rfl (.s (.s (.cons (.ptr 0 0 0 0 rfl) (.cons (.ptr 1 1 0 0 rfl) .nil)))) ⟨aL 0 (Dd _ _),⟨1,_,rfl,rfl,tC rfl rfl⟩,aL 2 (bD _),trivial⟩ rfl ?_;rintro r' m' n' ⟨rfl,rfl,rfl⟩;rw[Mh hu];have hstep:=E8 (B:=4294967296) (s:=s) (x:=u) (y:=0) (b:=c) rfl h4 hul (by decide) h3;have hdg:=C1 (B:=4294967296) (x:=u) (y:=0) (b:=c) hul (by decide) h3;generalize (if 0+c>u then u+4294967296-(0+c) else u-(0+c))=d at hstep hdg |-;have hbo:(if 0+c>u then 1 else 0)<=1:=by split<;>omega
    generalize (if 0+c>u then 1 else 0)=bo at hstep hbo |-;refine⟨[(0,0),(1,1),(2,2)],_,KY bo a.length ((s++[d])++a.drop (s++[d]).length),3,.same _ nn,⟨aL 0 (Dd _ _),⟨1,_,rfl,rfl,tC rfl rfl⟩,aL 2 (bD _),trivial⟩,rfl, ?_⟩;refine Rr ?_;exact .mk (s++[d],bo) [(0,0),(1,1),(2,2)] ⟨by simp;omega,kE h2 hdg,hbo,by simp only[aAA,aA7];rw[jZ hu];simpa using hstep⟩
     (aE _ rfl ⟨aL 0 (Dd _ _),⟨1,_,rfl,rfl,tC rfl rfl⟩,aL 2 (bD _),trivial⟩
      ⟨aF,aF,⟨_,rfl,(.fn _ _ _ _ _ rfl rfl sq (jB.cons (.ptr 0 0 0 0 rfl) (.cons (.ptr 1 1 0 0 rfl) .nil)).2)⟩,⟨_,rfl,.w64 sq ⟨by simp;omega,by simp;omega⟩⟩,trivial⟩) (by simp;omega)
   .have hc0:c=0:=by simp at hc;omega
    subst hc0;have hV:vl 4294967296 (s++a.drop s.length)=x-y:=by rw[mR];omega
    refine Rt ?_;have hL:∀d∈s++a.drop s.length,d<4294967296:=λd hd=>by
     rcases aAt.1 hd with hd|hd
     .exact h2 d hd
     .exact hla d (aAX hd)
    have hll:(s++a.drop s.length).length=a.length:=by simp;omega
    have hz:fY (s++a.drop s.length)=dg 4294967296 (x-y):=by rw[lD hB _ hL,hV]
    refine aH.pre bE [] (mem':=[]) rfl trivial (.cons (.fz' (id:=2) (ys:=bR (s++a.drop s.length)) rfl rfl (by rw[aX,hll];omega) (by rw[aAJ,aAk (by rw[aX,hll];omega)]) (bD _)) .nil) ?_;refine(DX (s++a.drop s.length) (by rw[hll];omega)).go ?_ (.cons (.il' (bD _)) .nil) (.il' (bD _));rw[hz];refine Rr ?_;exact aA (.il' (bD _)) ⟨rfl,rfl,rfl⟩
  .rw[hb];have hlt:s.length=a.length:=by simp at hb;omega
   have hc0:c=0:=by
    rcases aAz c with e|e
    .exact e
    .have hc1:c=1:=om;have:=Es hB s h2;rw[hlt,aAD,hva,hc1] at h4;rw[hlt] at this;omega
   subst hc0;have hV:vl 4294967296 (s++a.drop s.length)=x-y:=by rw[mR];omega
   refine Rt ?_;have hL:∀d∈s++a.drop s.length,d<4294967296:=λd hd=>by
    rcases aAt.1 hd with hd|hd
    .exact h2 d hd
    .exact hla d (aAX hd)
   have hll:(s++a.drop s.length).length=a.length:=by simp;omega
   have hz:fY (s++a.drop s.length)=dg 4294967296 (x-y):=by rw[lD hB _ hL,hV]
   refine aH.pre bE [] (mem':=[]) rfl trivial (.cons (.fz' (id:=2) (ys:=bR (s++a.drop s.length)) rfl rfl (by rw[aX,hll];omega) (by rw[aAJ,aAk (by rw[aX,hll];omega)]) (bD _)) .nil) ?_;refine(DX (s++a.drop s.length) (by rw[hll];omega)).go ?_ (.cons (.il' (bD _)) .nil) (.il' (bD _));rw[hz];refine Rr ?_;exact aA (.il' (bD _)) ⟨rfl,rfl,rfl⟩
theorem UG{x y p c:Nat}(hx:x<4294967296)(hy:y<4294967296)(hp:p<4294967296)(hc:c<4294967296):x*y<=18446744065119617025/\x*y+p<18446744073709551616/\c+(x*y+p)<18446744073709551616/\(c+(x*y+p))/4294967296<4294967296:=by
 have h:x*y<=4294967295*4294967295:=aBn om om;refine⟨om,om,om, ?_⟩;rw[aBW om];omega
theorem uU{l:List Nat}(h:i≠k):(l.set i d)[k]? = l[k]? := by rw[aBQ,aAe h]
theorem ZO(x y:Nat)(hx:(dg 4294967296 x).length<=1000000)(hy:(dg 4294967296 y).length<=1000000):aT prog [] 55 [.il 1 (bR (dg 4294967296 x)),.il 1 (bR (dg 4294967296 y))] (.il 1 (bR (dg 4294967296 (x*y)))):=by
 have hB:(2:Nat)<=4294967296:=by decide
 have hla:=fZ hB x;have hlb:=fZ hB y;have hva:=gO hB x;have hvb:=gO hB y;generalize dg 4294967296 x=a at *;generalize dg 4294967296 y=b at *;refine aD bE func55 rfl ?_;refine Rr ?_;rw[aX,aX];have hw:IntKind.i64.wrap ((a.length:Int)+(b.length:Int))=((a.length+b.length:Nat):Int):=by rw[aV oq];omega
 rw[hw];refine aN (C5 rfl rfl rfl om rfl) ?_;refine Rr ?_;refine bA.at bE (λp:Nat × List Nat=>p.1<=a.length/\p.2.length=a.length+b.length/\(∀d∈p.2,d<4294967296)/\vl 4294967296 p.2=vl 4294967296 (a.take p.1)*y/\∀k,p.1+b.length<=k->k<a.length+b.length->p.2[k]? = some 0)
  (λp=>⟨[(1,.il 1 (bR b)),(5,.sl 0 0 (a.length+b.length)),(17,.il 1 (bR a)),(18,.int .i64 a.length),(19,.int .i64 p.1)],[(0,.row 81 1 (bR p.2))],1,67⟩)
  (λp=>a.length-p.1) (0,List.replicate (a.length+b.length) 0) [(0,0)] ⟨sq,sq,sq,by simp only;rw[Ba];simp[vl],λk h1 h2=>by simp only;rw[aBr,aAh h2]⟩
  (aE _ rfl ⟨⟨0,_,rfl,rfl,.eq (bD _) (by rw[E9,aAc])⟩,trivial⟩
   ⟨aM (.il' (bD _)),⟨_,rfl,.slE rfl (aAc _)⟩,aM (.il' (bD _)),⟨_,rfl,.int (by rw[aX])⟩,aJ,trivial⟩) ?_
 rintro⟨i,P⟩ ⟨h1,h2,h3,h4,h5⟩;simp only at h1 h2 h3 h4 h5 |-;refine Rr ?_;refine aI (λhb=>?_) (λhb=>?_)
 .have hlt:i<a.length:=su hb
  obtain⟨u,hu⟩:∃u,a[i]? = some u:=⟨_,aAa hlt⟩
  have hul:=hla _ (aAm hu);have g1:=Br hu;refine Rr ?_;refine aB g1 ?_;refine Rr ?_;refine bA.at bE (λp:Nat × List Nat × Nat=>p.1<=b.length/\p.2.1.length=a.length+b.length/\(∀d∈p.2.1,d<4294967296)/\p.2.2<4294967296 /\
    vl 4294967296 p.2.1+4294967296 ^ (i+p.1)*p.2.2=vl 4294967296 (a.take i)*y+u*(4294967296 ^ i*vl 4294967296 (b.take p.1))/\∀k,i+b.length<=k->k<a.length+b.length->p.2.1[k]? = some 0)
   (λp=>⟨[(1,.il 1 (bR b)),(5,.sl 0 0 (a.length+b.length)),(6,.int .i64 i),(7,.int .u32 u),(8,.int .u64 (p.2.2:Int)),(17,.il 1 (bR a)),(18,.int .i64 a.length),(19,.int .i64 i),(24,.il 1 (bR b)),(25,.int .i64 b.length),(26,.int .i64 p.1)],[(0,.row 81 1 (bR p.2.1))],1,67⟩)
   (λp=>b.length-p.1) (0,P,0) [(0,0)] ⟨sq,h2,h3,sq,by simp only;rw[h4];simp[vl],h5⟩
   (aE _ rfl ⟨aL 0 (bD _),trivial⟩
    ⟨aM (.il' (bD _)),⟨_,rfl,.slE rfl rfl⟩,aJ,aJ,aJ,aM (.il' (bD _)),aJ,aJ,aM (.il' (bD _)),⟨_,rfl,.int (by rw[aX])⟩,aJ,trivial⟩) ?_
  rintro⟨j,Q,c⟩ ⟨h0,k2,k3,hc,k4,k5⟩;simp only at h0 k2 k3 hc k4 k5 |-;refine Rr ?_;refine aI (λhb=>?_) (λhb=>?_)
  .have hlt2:j<b.length:=su hb
   obtain⟨v,hv⟩:∃v,b[j]? = some v:=⟨_,aAa hlt2⟩
   obtain⟨p,hp⟩:∃p,Q[i+j]? = some p:=⟨_,aAa om⟩
   have hvl:=hlb _ (aAm hv);have hpl:=k3 _ (aAm hp);have g2:=Br hv;have g3:=JH hp;have bi:=sC (i:=i+j) (n:=a.length+b.length) om;obtain⟨q1,q2,q3,q4⟩:=UG hul hvl hpl hc;have e1:IntKind.u64.wrap (u:Int)=(u:Int):=wF om;have e2:IntKind.u64.wrap (v:Int)=(v:Int):=wF om;have e3:IntKind.u64.wrap ((u:Int)*(v:Int))=((u*v:Nat):Int):=by rw[<-Int.natCast_mul];exact wF om
   have e4:IntKind.i64.wrap ((i:Int)+(j:Int))=((i+j:Nat):Int):=by rw[aV oq];omega
   have e5:IntKind.u64.wrap (p:Int)=(p:Int):=wF om;have e6:IntKind.u64.wrap (((u*v:Nat):Int)+(p:Int))=((u*v+p:Nat):Int):=by rw[<-Int.natCast_add];exact wF om
   have e7:IntKind.u64.wrap ((c:Int)+((u*v+p:Nat):Int))=((c+(u*v+p):Nat):Int):=by rw[<-Int.natCast_add];exact wF om
   refine Rr ?_;refine aB g2 ?_;refine Rr ?_;rw[e1,e2,e3,e4];repeat((first|refine aN bi ?_|refine aB g3 ?_|refine bQ ?_);refine Rr ?_)
   rw[e5,e6,e7];refine Rs ?_;repeat((first|rw[e4]|refine aN bi ?_|refine aB g3 ?_);refine Rt ?_)
   have hms:=Ji (B:=4294967296) hp k4 (y:=v);have hmd:(c+(u*v+p))%4294967296<4294967296:=aBt _ (by decide);exact .mk (j+1,Q.set (i+j) ((c+(u*v+p))%4294967296),(c+(u*v+p))/4294967296) [(0,0)]
    ⟨by simp only;omega,by simp only[aB3];exact k2,IB k3 hmd,q4,by
      simp only;rw[jZ hv,Nat.mul_add (4294967296 ^ i),<-Nat.mul_assoc (4294967296 ^ i) (4294967296 ^ j),<-Nat.pow_add];exact hms,λk z1 z2=>by simp only;rw[uU om];exact k5 k z1 z2⟩
    (aE _ rfl ⟨⟨0,_,rfl,rfl,.eq (bD _) (by rw[Xz,aAc,aAF,tQ])⟩,trivial⟩
     ⟨aM (.il' (bD _)),⟨_,rfl,.slE rfl rfl⟩,aJ,aJ,⟨_,rfl,.int Rg⟩,aM (.il' (bD _)),aJ,aJ,aM (.il' (bD _)),aJ,⟨_,rfl,.w64 sq ⟨by simp only;omega,by simp only;omega⟩⟩,trivial⟩) (by simp only;omega)
  .have hj:j=b.length:=by simp at hb;omega
   subst hj;rw[aAD,hvb] at k4;have e4:IntKind.i64.wrap ((i:Int)+(b.length:Int))=((i+b.length:Nat):Int):=by rw[aV oq];omega
   have hp:=k5 (i+b.length) om om;have g3:=JH hp;have bi:=sC (i:=i+b.length) (n:=a.length+b.length) om;have hvs:=IW 4294967296 Q (i+b.length) c 0 hp;refine Rr ?_;rw[aX,e4];refine Rs ?_;repeat((first|refine aN bi ?_|refine aB g3 ?_);refine Rt ?_)
   exact .mk (i+1,Q.set (i+b.length) c) [(0,0)]
    ⟨by simp only;omega,by simp only[aB3];exact k2,IB k3 hc,by
      simp only;rw[jZ hu,Nat.add_mul,Nat.mul_assoc (4294967296 ^ i),aCI (4294967296 ^ i),<-k4];omega,λk z1 z2=>by simp only;rw[uU om];exact k5 k om z2⟩
    (aE _ rfl ⟨⟨0,_,rfl,rfl,.eq (bD _) (by rw[Pf hc,aAc,aAF,tQ])⟩,trivial⟩
     ⟨aM (.il' (bD _)),⟨_,rfl,.slE rfl rfl⟩,aM (.il' (bD _)),aJ,⟨_,rfl,.w64 sq ⟨by simp only;omega,by simp only;omega⟩⟩,trivial⟩) (by simp only;omega)
 .have hi:i=a.length:=by simp at hb;omega
  subst hi;rw[aAD,hva] at h4;have hz:fY P=dg 4294967296 (x*y):=by rw[lD hB _ h3,h4]
  refine Rr ?_;refine aH.pre bE [] (mem':=[]) rfl trivial (.cons (.fz' (id:=0) (ys:=bR P) rfl rfl (by rw[aX,h2];omega) (by rw[aAJ,aAk (by rw[aX,h2];omega)]) (bD _)) .nil) ?_;refine(DX P (by rw[h2];omega)).go ?_ (.cons (.il' (bD _)) .nil) (.il' (bD _));rw[hz];refine Rr ?_;exact aA (.il' (bD _)) ⟨rfl,rfl,rfl⟩
theorem u0{B:Nat}(hB:2<=B):∀l:List Nat,(∀d∈l,d<B)->l=g6 (dg B (vl B l)) l.length
 | [],_=>by simp[vl,fL,g6]
 | d::r,h=>by
  have ih:=u0 hB r λx hx=>h x (by simp[hx])
  have hd:=h d sq;rcases aAz (d+B*vl B r) with e|e
  .have hd0:d=0:=om;have hv0:vl B r=0:=by
    rcases aAz (vl B r) with h1|h1
    .exact h1
    .have:=aCd (show 0<B by omega) h1;omega
   rw[hv0,fL] at ih;rw[vl,hv0,hd0,aCn,aAF,fL]
   conv=>lhs;rw[ih]
   simp[g6,aA6]
  .rw[vl,Nf hB hd e]
   conv=>lhs;rw[ih]
   simp[g6]
theorem La{z:Nat}:fY (g6 (dg 4294967296 z) n)=dg 4294967296 z:=by
 have hB:(2:Nat)<=4294967296:=by decide
 have hall:∀d∈g6 (dg 4294967296 z) n,d<4294967296:=λd hd=>by
  rcases aAt.1 hd with h|h
  .exact fZ hB z d h
  .rw[aCg h];decide
 rw[lD hB _ hall,Np,gO hB]
def tJ(m:Nat)(R:List Nat):List Nat:=List.replicate m 0++R
theorem KF{R:List Nat}:(tJ (i+1) R)[i]? = some 0:=by
 unfold tJ;rw[aAM sq,aBr,aAh om]
theorem Kx{R:List Nat}:(tJ (i+1) R).set i d=tJ i (d::R):=by
 unfold tJ;rw[aCQ,List.append_assoc,aCo _ _ sq];simp
theorem QA(x d:Nat)(hx:(dg 4294967296 x).length<=1000000)(hd0:0<d)(hd:d<4294967296):aT prog [] 38 [.il 1 (bR (dg 4294967296 x)),.int .u32 d] (.tup [.il 1 (bR (g6 (dg 4294967296 (x/d)) (dg 4294967296 x).length)),.int .u32 ((x%d:Nat):Int)]):=by
 have hB:(2:Nat)<=4294967296:=by decide
 have hla:=fZ hB x;have hva:=gO hB x;generalize dg 4294967296 x=a at *;refine aD bE func38 rfl ?_;refine Rr ?_;rw[aX];refine aN (C5 rfl rfl rfl om rfl) ?_;refine Rr ?_;refine bA.at bE (λp:Nat × List Nat × Nat=>p.1<=a.length/\p.2.1.length=a.length-p.1/\(∀d∈p.2.1,d<4294967296)/\p.2.2<d/\vl 4294967296 (a.drop p.1)=vl 4294967296 p.2.1*d+p.2.2)
  (λp=>⟨[(0,.il 1 (bR a)),(1,.int .u32 d),(6,.sl 0 0 a.length),(7,.int .u64 (p.2.2:Int)),(8,.int .i64 ((p.1:Int)-1))],[(0,.row 81 1 (bR (tJ p.1 p.2.1)))],1,42⟩)
  (λp=>p.1) (a.length,[],0) [(0,0)] ⟨sq,sq,sq,hd0,by simp[vl]⟩
  (aE _ rfl ⟨⟨0,_,rfl,rfl,.eq (bD _) (by simp[tJ,E9])⟩,trivial⟩
   ⟨aM (.il' (bD _)),aJ,⟨_,rfl,.slE rfl (aAc _)⟩,aJ,⟨_,rfl,.w64 (by rw[aX]) ⟨by simp only;omega,by simp only;omega⟩⟩,trivial⟩) ?_
 rintro⟨m,R,r⟩ ⟨h1,h2,h3,h4,h5⟩;simp only at h1 h2 h3 h4 h5 |-;refine Rr ?_;refine aI (λhb=>?_) (λhb=>?_)
 .have hm1:0<m:=by simp at hb;omega
  obtain⟨i,rfl⟩:∃i,m=i+1:=⟨m-1,om⟩
  rw[show (((i+1:Nat):Int)-1)=(i:Int) by omega];obtain⟨u,hu⟩:∃u,a[i]? = some u:=⟨_,aAa om⟩
  have hul:=hla _ (aAm hu);have g1:=Br hu;have g3:(bR (tJ (i+1) R))[0+((i:Nat):Int).toNat]? = some (.int .u32 0):=JH KF;have bi:=sC (i:=i) (n:=a.length) om;have e1:IntKind.u64.wrap (u:Int)=(u:Int):=wF om;have e2:IntKind.u64.wrap (d:Int)=(d:Int):=wF om;have e3:bits BinOp.or IntKind.u64 (IntKind.u64.wrap ((r:Int)*2 ^ min (Int.toNat 32) IntKind.u64.bits)) (u:Int)=((r*4294967296+u:Nat):Int):=V8 om hul;obtain⟨s1,s2,s3⟩:=P7 (B:=4294967296) (by decide) (x:=u) hd0 h5 h4;have s3:=s3 hul;refine Rr ?_;repeat((first|refine aB g1 ?_|refine bQ ?_);refine Rr ?_)
  have hnd:(!decide ((d:Int)=0))=true:=by simp;omega
  have e4:IntKind.u64.wrap (((r*4294967296+u:Nat):Int).tdiv (d:Int))=(((r*4294967296+u)/d:Nat):Int):=by rw[pX];exact wF om
  have e5:IntKind.u64.wrap (((r*4294967296+u:Nat):Int).tmod (d:Int))=(((r*4294967296+u)%d:Nat):Int):=by rw[x8];exact wF om
  rw[e1,e2,e3,e4];refine aN hnd ?_;refine Rt ?_;repeat((first|refine aN bi ?_|refine aB g3 ?_);refine Rt ?_)
  try rw[e2]
  try rw[e5]
  refine aN hnd ?_;refine Rr ?_;exact .mk (i,(r*4294967296+u)/d::R,(r*4294967296+u)%d) [(0,0)]
   ⟨by simp only;omega,by simp only[aAH];omega,λz hz=>by
     rcases aAj.1 hz with rfl|hz
     .exact s3
     .exact h3 z hz,s2,by simp only[vl];rw[qL hu];exact s1⟩
   (aE _ rfl ⟨⟨0,_,rfl,rfl,.eq (bD _) (by rw[Pf s3,aAc,aAF,tQ,Kx])⟩,trivial⟩
    ⟨aM (.il' (bD _)),aJ,⟨_,rfl,.slE rfl rfl⟩,aJ,⟨_,rfl,.w64 rfl ⟨by simp only;omega,by simp only;omega⟩⟩,trivial⟩) (by simp only;omega)
 .have hm0:m=0:=by simp at hb;omega
  subst hm0;rw[aAJ,hva] at h5;obtain⟨q1,q2⟩:=JC (U:=x) (v:=d) (d:=vl 4294967296 R) (by rw[Nat.add_mul];omega) om;have hR:tJ 0 R=g6 (dg 4294967296 (x/d)) a.length:=by
   have:=u0 hB R h3;rw[h2,Nat.sub_zero,<-q1] at this;unfold tJ;rw[List.replicate_zero,aAZ];exact this
  have hr:x%d=r:=om;have e6:IntKind.u32.wrap (r:Int)=(r:Int):=Pf om;refine Rr ?_;rw[hR,e6,hr];have hl:(g6 (dg 4294967296 (x/d)) a.length).length=a.length:=by rw[<-hR];simp[tJ];omega
  exact gM (r':=.tup [.il 1 (bR (g6 (dg 4294967296 (x/d)) a.length)),.int .u32 (r:Int)]) (.tup' (.cons (.fz' (id:=0) rfl rfl (by rw[aX,hl];omega) (by rw[aAJ];exact aAk (by rw[aX,hl];omega)) (bD _)) (.s .nil))) ⟨rfl,rfl,rfl⟩
structure Z8(qn lx ag X m:Nat)(N R:List Nat):Prop where
 a1:m<=qn
 a2:N.length=lx+1
 a3:∀d∈N,d<4294967296
 a4:R.length=qn-m
 a5:∀d∈R,d<4294967296
 a6:vl 4294967296 R*4294967296 ^ m*ag+vl 4294967296 N=X
 a7:vl 4294967296 N<ag*4294967296 ^ m
theorem tB(b:Bool):NN (.bool b):=.bool b
theorem tU(l:List Nat):NN (.il 1 (bR l)):=.il' (bD l)
theorem LK(n:Nat):fY (dg 4294967296 n)=dg 4294967296 n:=by
 have hB:(2:Nat)<=4294967296:=by decide
 rw[lD hB _ (fZ hB n),gO hB]
theorem ED(neg:Bool)(n:Nat):mM (sg neg n) = .agg [.bool (neg && decide (0<n)),.il 1 (bR (dg 4294967296 n))]:=by
 unfold mM;rw[EJ,RY]
theorem Hx(neg:Bool)(n:Nat)(hn:(dg 4294967296 n).length<=4294967296):aT prog [] 103 [.bool neg,.il 1 (bR (dg 4294967296 n))] (mM (sg neg n)):=by
 have ht:=DX (dg 4294967296 n) hn;rw[LK] at ht;have hw:=Bk (sg neg n);have hz:=iE (B:=4294967296) (n:=n) (by decide);rw[ED] at hw |-;generalize dg 4294967296 n=l at *;refine aD bE func103 rfl ?_;refine Rr ?_;refine ht.go ?_ (.cons (tU _) .nil) (tU _);have hlz:decide (((bR l).length:Int)>0)=decide (0<n):=by
  rw[aX,<-hz,aA2];omega
 cases neg with
 | false=>
  refine Rt ?_;exact aA hw ⟨rfl,rfl,rfl⟩
 | true=>
  refine Rr ?_;rw[hlz];refine Rs ?_;exact aA hw ⟨rfl,rfl,rfl⟩
theorem Ys:mM 0 = .agg [.bool false,.il 1 []]:=by simp[mM,fL,bR]
def GU(z:Int):AV:=if pK z=true then .tup [mM z,.int .i64 0] else .tup [mM 0,.int .i64 4]
theorem Ts(z:Int):NN (GU z):=by
 unfold GU;split
 .exact .tup' (.cons (Bk _) (.cons nn .nil))
 .exact .tup' (.cons (Bk _) (.cons nn .nil))
theorem My(neg:Bool)(n:Nat)(hn:(dg 4294967296 n).length<=4294967296):aT prog [] 54 [.bool neg,.il 1 (bR (dg 4294967296 n))] (GU (sg neg n)):=by
 have hm:=Hx neg n hn;have hw:=Bk (sg neg n);have hr:=Ts (sg neg n);have hf:pK (sg neg n)=decide ((dg 4294967296 n).length<=512):=by have:=@Fk (sg neg n);rw[EJ] at this;exact this
 rw[ED] at hm hw;have hR:GU (sg neg n)=if pK (sg neg n)=true then .tup [.agg [.bool (neg && decide (0<n)),.il 1 (bR (dg 4294967296 n))],.int .i64 0] else .tup [.agg [.bool false,.il 1 []],.int .i64 4]:=by rw[<-ED,<-Ys];rfl
 rw[hR] at hr |-;refine aD bE func54 rfl ?_;refine Rr ?_;refine hm.go ?_ (.cons (tB _) (.cons (tU _) .nil)) hw;refine Rr ?_;rw[aX];refine aI (λhb=>?_) (λhb=>?_)
 .have hb:¬pK (sg neg n)=true:=by
   rw[hf];simp at hb;simp;omega
  rw[aAe hb] at hr |-;refine Rr ?_;exact gM (r':=.tup [.agg [.bool false,.il 1 []],.int .i64 4]) (.tup' (.cons (.agg' (.cons (.same _ (tB _)) (.cons (.nil 1) .nil))) (.s .nil))) ⟨rfl,rfl,rfl⟩
 .have hb:pK (sg neg n)=true:=by
   rw[hf];simp at hb;simp;omega
  rw[aAh hb] at hr |-;refine Rt ?_;exact aA hr ⟨rfl,rfl,rfl⟩
theorem lW(x:Int):mM x = .agg [.bool (decide (x<0)),.il 1 (bR (dg 4294967296 x.natAbs))]:=rfl
theorem RG(x y:Int):sg (decide (x<0) != decide (y<0)) (x.natAbs*y.natAbs)=x*y:=by
 have ex:=HI x;have ey:=HI y
 conv=>rhs;rw[<-ex,<-ey]
 generalize decide (x<0)=a;generalize decide (y<0)=b;cases a<;>cases b<;>simp[sg,Int.neg_mul,aDb]
theorem GJ(b:Bool)(l:List Nat):NN (.agg [.bool b,.il 1 (bR l)]):=.agg' (.cons (tB _) (.cons (tU _) .nil))
theorem K7(z:Int):∃(b:Bool) (l:List Nat) (e:Int),GU z = .tup [.agg [.bool b,.il 1 (bR l)],.int .i64 e]:=by
 unfold GU;split
 .exact⟨_,_,_,rfl⟩
 .exact⟨_,_,_,rfl⟩
theorem X6(x y:Int)(hx:(dg 4294967296 x.natAbs).length<=1000000)(hy:(dg 4294967296 y.natAbs).length<=1000000):aT prog [] 18 [mM x,mM y] (GU (x*y)):=by
 have hm:=ZO x.natAbs y.natAbs hx hy;have hr:=My (decide (x<0) != decide (y<0)) (x.natAbs*y.natAbs) (by have:=Dz (B:=4294967296) (by decide) x.natAbs y.natAbs;omega);rw[RG] at hr;obtain⟨b,l,e,he⟩:=K7 (x*y);rw[he] at hr |-;rw[lW x,lW y];generalize dg 4294967296 (x.natAbs*y.natAbs)=ab at *;generalize dg 4294967296 x.natAbs=a1 at *;generalize dg 4294967296 y.natAbs=a2 at *;generalize decide (x<0)=b1 at *;generalize decide (y<0)=b2 at *;refine aD bE func18 rfl ?_;refine Rt ?_;refine hm.go ?_ (.cons (tU _) (.cons (tU _) .nil)) (tU _);refine Rt ?_;refine hr.go ?_ (.cons (tB _) (.cons (tU _) .nil)) (.tup' (.cons (GJ _ _) (.cons nn .nil)));refine Rt ?_;exact aA (.tup' (.cons (GJ _ _) (.cons nn .nil))) ⟨rfl,rfl,rfl⟩
theorem Tj{x y:Int}(h:decide (x<0)=decide (y<0)):sg (decide (x<0)) (x.natAbs+y.natAbs)=x+y:=by
 unfold sg;by_cases h1:x<0
 .have h2:y<0:=by rw[aAn h1] at h;exact aAY h.symm
  simp[h1];omega
 .have h2:¬y<0:=by rw[aAw h1] at h;exact aBA h.symm
  simp[h1];omega
theorem Ms{x y:Int}(h:decide (x<0)≠decide (y<0))(hge:y.natAbs<=x.natAbs):sg (decide (x<0)) (x.natAbs-y.natAbs)=x+y:=by
 unfold sg;by_cases h1:x<0
 .have h2:¬y<0:=λh2=>h (by rw[aAn h1,aAn h2])
  simp[h1];omega
 .have h2:y<0:=by
   rcases aC0 y 0 with h2|h2
   .exact h2
   .exact absurd (by rw[aAw h1,aAw om]) h
  simp[h1];omega
theorem XH(x y:Int)(hx:(dg 4294967296 x.natAbs).length<=1000000)(hy:(dg 4294967296 y.natAbs).length<=1000000):aT prog [] 53 [mM x,mM y] (mM (x+y)):=by
 have hB:(2:Nat)<=4294967296:=by decide
 have hc:=ZN x.natAbs y.natAbs om;have ha:=Zk x.natAbs y.natAbs hx hy;have hma:=Hx (decide (x<0)) (x.natAbs+y.natAbs) (by have:=H0 hB x.natAbs y.natAbs;omega);have hS1:=λh=>YT x.natAbs y.natAbs h hx
 have hS2:=λh=>YT y.natAbs x.natAbs h hy
 have hm1:=Hx (decide (x<0)) (x.natAbs-y.natAbs) (by have:=BX hB x.natAbs y.natAbs;omega);have hm2:=Hx (decide (y<0)) (y.natAbs-x.natAbs) (by have:=BX hB y.natAbs x.natAbs;omega);have q1:=λh=>Tj (x:=x) (y:=y) h
 have q2:=λh h2=>Ms (x:=x) (y:=y) h h2
 have q3:=λh h2=>Ms (x:=y) (y:=x) h h2
 rw[Int.add_comm y x] at q3;have hcc:mI (x.natAbs:Int) (y.natAbs:Int)≥0↔y.natAbs<=x.natAbs:=by unfold mI;split<;>(try split)<;>omega
 generalize mI (x.natAbs:Int) (y.natAbs:Int)=cj at *;rw[lW (x+y)];generalize hz1:decide (x+y<0)=rb at *;generalize hz2:dg 4294967296 (x+y).natAbs=rl at *;have hE:∀z,z=x+y->mM z = .agg [.bool rb,.il 1 (bR rl)]:=λz hz=>by rw[hz,lW,hz1,hz2]
 rw[lW x,lW y];generalize dg 4294967296 (x.natAbs+y.natAbs)=as_ at *;generalize dg 4294967296 (x.natAbs-y.natAbs)=ad1 at *;generalize dg 4294967296 (y.natAbs-x.natAbs)=ad2 at *;generalize dg 4294967296 x.natAbs=a1 at *;generalize dg 4294967296 y.natAbs=a2 at *;generalize decide (x<0)=b1 at *;generalize decide (y<0)=b2 at *;refine aD bE func53 rfl ?_;refine Rr ?_;by_cases hb:b1=b2
 .rw[hE _ (q1 hb)] at hma;rw[show (b1 == b2)=true by rw[hb];simp];refine Rt ?_;refine ha.go ?_ (.cons (tU _) (.cons (tU _) .nil)) (tU _);refine Rt ?_;refine hma.go ?_ (.cons (tB _) (.cons (tU _) .nil)) (GJ _ _);refine Rt ?_;exact aA (GJ _ _) ⟨rfl,rfl,rfl⟩
 .rw[show (b1 == b2)=false by simpa using hb];refine Rr ?_;refine hc.go ?_ (.cons (tU _) (.cons (tU _) .nil)) nn;refine Rr ?_;refine aI (λhcb=>?_) (λhcb=>?_)
  .have hge:=hcc.1 (su hcb);have hs:=hS1 hge;rw[hE _ (q2 hb hge)] at hm1;refine Rt ?_;refine hs.go ?_ (.cons (tU _) (.cons (tU _) .nil)) (tU _);refine Rt ?_;refine hm1.go ?_ (.cons (tB _) (.cons (tU _) .nil)) (GJ _ _);refine Rt ?_;exact aA (GJ _ _) ⟨rfl,rfl,rfl⟩
  .have hlt:x.natAbs<=y.natAbs:=by
    have:¬cj≥0:=su hcb
    have:=λh=>this (hcc.2 h)
    omega
   have hs:=hS2 hlt;rw[hE _ (q3 (λh=>hb h.symm) hlt)] at hm2;refine Rt ?_;refine hs.go ?_ (.cons (tU _) (.cons (tU _) .nil)) (tU _);refine Rt ?_;refine hm2.go ?_ (.cons (tB _) (.cons (tU _) .nil)) (GJ _ _);refine Rt ?_;exact aA (GJ _ _) ⟨rfl,rfl,rfl⟩
theorem Xo(x y:Int)(hx:(dg 4294967296 x.natAbs).length<=900000)(hy:(dg 4294967296 y.natAbs).length<=900000):aT prog [] 17 [mM x,mM y] (GU (x+y)):=by
 have hB:(2:Nat)<=4294967296:=by decide
 have ht:=XH x y om om;have hl:(dg 4294967296 (x+y).natAbs).length<=1000000:=by
  have h1:=Int.natAbs_add_le x y;have h2:=fJ hB h1;have h3:=H0 hB x.natAbs y.natAbs;omega
 have hr:=My (decide (x+y<0)) (x+y).natAbs om;rw[HI] at hr;obtain⟨b,l,e,he⟩:=K7 (x+y);rw[he] at hr |-;rw[lW (x+y)] at ht;rw[lW x,lW y] at *;generalize dg 4294967296 (x+y).natAbs=ab at *;generalize dg 4294967296 x.natAbs=a1 at *;generalize dg 4294967296 y.natAbs=a2 at *;generalize decide (x+y<0)=bb at *;generalize decide (x<0)=b1 at *;generalize decide (y<0)=b2 at *;refine aD bE func17 rfl ?_;refine Rr ?_;refine ht.go ?_ (.cons (GJ _ _) (.cons (GJ _ _) .nil)) (GJ _ _);refine Rt ?_;refine hr.go ?_ (.cons (tB _) (.cons (tU _) .nil)) (.tup' (.cons (GJ _ _) (.cons nn .nil)));refine Rt ?_;exact aA (.tup' (.cons (GJ _ _) (.cons nn .nil))) ⟨rfl,rfl,rfl⟩
theorem FY{x y q r:Int}(hy:y≠0)(h:r+y*q=x)(h0:0<=r)(h1:r<y.natAbs):x/y=q/\x%y=r:=by
 rcases aC0 y 0 with hn|hn
 .obtain⟨b,rfl⟩:∃b,y = -b:=⟨-y,om⟩
  have:=(Int.ediv_emod_unique (a:=x) (b:=b) (r:=r) (q:=-q) om).2 ⟨by rw[aDb,<-Int.neg_mul];exact h,h0,om⟩;rw[Int.ediv_neg,Int.emod_neg,this.1,this.2];exact⟨om,rfl⟩
 .exact(Int.ediv_emod_unique om).2 ⟨h,h0,om⟩
theorem Oh{x y:Int}(hy:y≠0):(decide (x<0)=true/\0<x.natAbs%y.natAbs->x/y=sg (decide (x<0) != decide (y<0)) (x.natAbs/y.natAbs+1)/\x%y=((y.natAbs-x.natAbs%y.natAbs:Nat):Int)) /\
  (¬(decide (x<0)=true/\0<x.natAbs%y.natAbs)->x/y=sg (decide (x<0) != decide (y<0)) (x.natAbs/y.natAbs)/\x%y=((x.natAbs%y.natAbs:Nat):Int)):=by
 have hyp:0<y.natAbs:=aDi.2 hy;have hd:=aCx x.natAbs y.natAbs;have hm:=aBt x.natAbs hyp;have hd2:(y.natAbs:Int)*((x.natAbs/y.natAbs:Nat):Int)+((x.natAbs%y.natAbs:Nat):Int)=(x.natAbs:Int):=by rw[<-Int.natCast_mul,<-Int.natCast_add,hd]
 generalize x.natAbs/y.natAbs=Q at *;generalize x.natAbs%y.natAbs=R at *;constructor
 .rintro⟨h1,h2⟩;have h1:=aAY h1;refine FY hy ?_ om om;rw[aAn h1];rcases aC0 y 0 with hn|hn
  .rw[aAn hn];rw[show (y.natAbs:Int) = -y by omega,Int.neg_mul] at hd2;simp only[sg,bne_self_eq_false,aBB,if_false,Int.natCast_add,Int.mul_add,Int.natCast_one,Int.mul_one];generalize y*(Q:Int)=P at *;omega
  .rw[aAw om];rw[show (y.natAbs:Int)=y by omega] at hd2;simp only[sg,Bool.true_bne,Bool.not_false,if_true,Int.natCast_add,aDb,Int.mul_add,Int.natCast_one,Int.mul_one];generalize y*(Q:Int)=P at *;omega
 .intro h;refine FY hy ?_ om om;by_cases h1:x<0
  .have hR:R=0:=by
    rcases aAz R with e|e
    .exact e
    .exact absurd ⟨aAn h1,e⟩ h
   subst hR;rw[aAn h1];rcases aC0 y 0 with hn|hn
   .rw[aAn hn];rw[show (y.natAbs:Int) = -y by omega,Int.neg_mul] at hd2;simp only[sg,bne_self_eq_false,aBB,if_false];generalize y*(Q:Int)=P at *;omega
   .rw[aAw om];rw[show (y.natAbs:Int)=y by omega] at hd2;simp only[sg,Bool.true_bne,Bool.not_false,if_true,aDb];generalize y*(Q:Int)=P at *;omega
  .rw[aAw h1];rcases aC0 y 0 with hn|hn
   .rw[aAn hn];rw[show (y.natAbs:Int) = -y by omega,Int.neg_mul] at hd2;simp only[sg,Bool.false_bne,if_true,aDb];generalize y*(Q:Int)=P at *;omega
   .rw[aAw om];rw[show (y.natAbs:Int)=y by omega] at hd2;simp only[sg,bne_self_eq_false,aBB,if_false];generalize y*(Q:Int)=P at *;omega
theorem Wh(neg:Bool)(l:List Nat)(hl:l.length<=4294967296):aT prog [] 103 [.bool neg,.il 1 (bR l)] (.agg [.bool (neg && decide (0<(fY l).length)),.il 1 (bR (fY l))]):=by
 have ht:=DX l hl;generalize fY l=z at *;refine aD bE func103 rfl ?_;refine Rr ?_;refine ht.go ?_ (.cons (tU _) .nil) (tU _);have hlz:decide (((bR z).length:Int)>0)=decide (0<z.length):=by
  rw[aX,aA2];omega
 cases neg with
 | false=>
  refine Rt ?_;exact aA (GJ _ _) ⟨rfl,rfl,rfl⟩
 | true=>
  refine Rr ?_;rw[hlz];refine Rs ?_;exact aA (GJ _ _) ⟨rfl,rfl,rfl⟩
theorem QO(neg:Bool)(m:Nat)(hm:m<18446744073709551616):fY [m%4294967296,m/4294967296]=dg 4294967296 m/\AV.agg [.bool (neg && decide (0<(fY [m%4294967296,m/4294967296]).length)),.il 1 (bR (fY [m%4294967296,m/4294967296]))]=mM (sg neg m):=by
 have e:fY [m%4294967296,m/4294967296]=dg 4294967296 m:=by
  rw[lD (B:=4294967296) (by decide) _ (by intro d hd;simp at hd;omega)];congr 1;simp[vl];omega
 refine⟨e, ?_⟩;rw[e,ED,iE (by decide)]
theorem SL(n:Int)(hn:i64 n):aT prog [] 75 [.int .i64 n] (mM n):=by
 have hn':=hn;obtain⟨hn1,hn2⟩:=hn';have hm:=Wh (decide (n<0)) [n.natAbs%4294967296,n.natAbs/4294967296] sq;have h2:=(QO (decide (n<0)) n.natAbs om).2;rw[h2,HI] at hm;rw[lW n] at hm |-;generalize dg 4294967296 n.natAbs=l at *;have hM:n.natAbs<18446744073709551616:=om;have x1:IntKind.u32.wrap (n.natAbs:Int)=((n.natAbs%4294967296:Nat):Int):=Xz _;have x2:IntKind.u32.wrap ((n.natAbs:Int).fdiv (2 ^ 32))=((n.natAbs/4294967296:Nat):Int):=by rw[Rg,Pf om]
 have step:∀(X:Int),X=(n.natAbs:Int)->bR [n.natAbs%4294967296,n.natAbs/4294967296]=[AV.int IntKind.u32 (IntKind.u32.wrap X),AV.int IntKind.u32 (IntKind.u32.wrap (X.fdiv (2 ^ 32)))]:=λX hX=>by rw[hX,x1,x2];rfl
 refine aD bE func75 rfl ?_;refine Rr ?_;refine aI (λhb=>?_) (λhb=>?_)
 .rw[hb] at hm |-;have hs:=step (IntKind.u64.wrap (0-IntKind.u64.wrap n)) (by have:=aAY hb;rw[eJ,eJ];omega);refine Rr ?_;rw[hb];refine aH.pre bE [(0,0)] (mem':=[(0,.row 33 2 [.agg [.bool false,.nsl]])]) rfl ⟨aL 0 (.cons (.agg' (.cons (tB _) (.cons nn .nil))) .nil),trivial⟩
   (.cons (.same _ (tB _)) (.cons (.fz' (id:=1) (off:=0) (len:=2) (ys:=bR [n.natAbs%4294967296,n.natAbs/4294967296]) rfl rfl (aAp 2) hs.symm (bD _)) .nil)) ?_
  refine hm.go ?_ (.cons (tB _) (.cons (tU _) .nil)) (GJ _ _);refine Rt ?_;exact aA (GJ _ _) ⟨rfl,rfl,rfl⟩
 .rw[hb] at hm |-;have hs:=step (IntKind.u64.wrap n) (by have:=aBA hb;rw[eJ];omega);generalize IntKind.u64.wrap n=X at *;refine Rr ?_;rw[hb];refine aH.pre bE [(0,0)] (mem':=[(0,.row 33 2 [.agg [.bool false,.nsl]])]) rfl ⟨aL 0 (.cons (.agg' (.cons (tB _) (.cons nn .nil))) .nil),trivial⟩
   (.cons (.same _ (tB _)) (.cons (.fz' (id:=1) (off:=0) (len:=2) (ys:=bR [n.natAbs%4294967296,n.natAbs/4294967296]) rfl rfl (aAp 2) hs.symm (bD _)) .nil)) ?_
  refine hm.go ?_ (.cons (tB _) (.cons (tU _) .nil)) (GJ _ _);refine Rt ?_;exact aA (GJ _ _) ⟨rfl,rfl,rfl⟩
end Go.Proofs.YtidjhgajglebnaaGreatDoor
namespace Go.Ax
open Go
theorem M4(k m:Nat)(e:40*k=m):j8 k=2 ^ m:=by subst e;rfl
theorem QF{n k m:Nat}(h:n<=j8 k)(e:40*k=m)(hm:m<16384):pK (n:Int)=true:=by
 rw[M4 k m e] at h;exact TB (n:=m) (by rw[aBd];exact h) hm
end Go.Ax
