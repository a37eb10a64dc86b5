/- A part of the proof. -/
import Derived.Test.YtidjhgajglebnaaGreatDoorAx12
import Derived.Test.YtidjhgajglebnaaGreatDoorProg
import Derived.KernelRfl
import Derived.Shelf.Strings.Builder1
import Derived.Shelf.Strings.Builder2
import Derived.Shelf.Strings.BuilderF
import Derived.Shelf.Strconv.Itoa0
import Derived.Shelf.Strconv.Itoa1
import Derived.Shelf.LaysM
import Derived.Shelf.Strconv.Itoa2
import Derived.Shelf.Strconv.Itoa3
import Derived.Shelf.Strings.Prefix
import Derived.Shelf.Bits.Mul64
import Derived.Shelf.Strings.Repeat
set_option linter.unusedVariables false
set_option linter.unusedSimpArgs false
set_option maxRecDepth 1000000
set_option maxHeartbeats 16000000
namespace Go.Proofs.YtidjhgajglebnaaGreatDoor
open Go Go.Ax Go.Proofs Tryz
theorem YC(x:Nd)(h:x.kind=1->Go.Ax.d7 x=true):aT prog [] 80 [.ip (cW x)] (.int .i64 (Um x)):=by
 have hr:x.kind=1->x.lo<=x.hi/\x.hi<x.lo+1099511627776:=λe=>⟨(dG (h e)).1,(dG (h e)).2.2.2⟩
 have ho:Um x=if x.kind=1 then x.hi-x.lo+1 else x.kids.length:=rfl
 clear h;obtain⟨kind,name,lo,hi,ws,ls,vals,kids,⟨vk,vn,vs,vks⟩⟩:=x;simp only at hr ho;generalize Um ⟨kind,name,lo,hi,ws,ls,vals,kids,.mk vk vn vs vks⟩=o at *;refine aD bE func80 rfl ?_;refine Rr ?_;refine aI (λh=>?_) (λh=>?_)
 .have h1:kind=1:=su h
  obtain⟨r1,r2⟩:=hr h1;rw[aAh h1] at ho;have hw:IntKind.i64.wrap (hi-lo)=hi-lo:=aV oq;have hw2:IntKind.i64.wrap (hi-lo+1)=o:=by rw[aV oq,ho]
  refine Rt ?_;rw[hw,hw2];exact aA nn ⟨rfl,rfl,rfl⟩
 .have h1:¬kind=1:=su h
  rw[aAe h1] at ho;refine Rr ?_;exact gM (.int (by rw[ho,aK])) ⟨rfl,rfl,rfl⟩
theorem Nv(x:Nd)(v:aQ):aT prog [] 133 [.ip (cW x),cO v] (.bool (jA x v)):=by
 have nx:=bB x;obtain⟨k,n,s,ks⟩:=v;have hm:jA x (.mk k n s ks)=(decide (ks.length=x.kids.length) && (if x.name=[] then decide (k=2) else decide (k=3) && decide (s=x.name))):=rfl;generalize jA x (.mk k n s ks)=r at *;obtain⟨kind,name,lo,hi,ws,ls,vals,kids,⟨vk,vn,vs,vks⟩⟩:=x;simp only at hm;have d0:((((aU ks).length:Nat):Int) != (((bL kids).length:Nat):Int)) = !decide (ks.length=kids.length):=by
  rw[aC,aK,aAS];simp;omega
 refine aD bE func133 rfl ?_;refine Rt ?_;rw[d0];by_cases h0:ks.length=kids.length
 .rw[aAn h0] at hm |-;refine Rt ?_;refine aI (λh=>?_) (λh=>?_)
  .have h1:name=[]:=su h
   rw[aAh h1] at hm;refine Rt ?_;exact gM (r':=.bool r) (.bool (by rw[hm,aAS];simp)) ⟨rfl,rfl,rfl⟩
  .have h1:¬name=[]:=su h
   rw[aAe h1] at hm;refine Rt ?_;refine aI (λh=>?_) (λh=>?_)
   .have h3:k=3:=su h
    refine Rs ?_;repeat(rw[h];refine Rt ?_)
    exact gM (r':=.bool r) (.bool (by rw[hm,aAS];simp[h3])) ⟨rfl,rfl,rfl⟩
   .have h3:¬k=3:=su h
    refine Rs ?_;repeat(rw[h];refine Rt ?_)
    exact gM (r':=.bool r) (.bool (by rw[hm,aAS];simp[h3])) ⟨rfl,rfl,rfl⟩
 .rw[aAw h0] at hm |-;refine Rt ?_;exact gM (r':=.bool r) (.bool (by rw[hm];rfl)) ⟨rfl,rfl,rfl⟩
theorem RQ(x:Int):aT prog [] 224 [.int .i64 x] (.bool false):=by
 refine jK bE func224 rfl ?_
 conv=>whnf
 refine aA (.bool _) ⟨?_,rfl,rfl⟩;simp
theorem QD(x:List UInt8):aT prog [] 225 [.str x] (.bool false):=by
 refine jK bE func225 rfl ?_
 conv=>whnf
 refine aA (.bool _) ⟨?_,rfl,rfl⟩;simp
theorem Q3(x y:Int):aT prog [] 176 [.int .i64 x,.int .i64 y] (.int .i64 (wG x y)):=by
 refine jK bE func176 rfl ?_
 conv=>whnf
 refine(RQ x).use bE (.cons (.int _ _) .nil) (.bool _) ?_
 conv=>whnf
 refine(RQ y).use bE (.cons (.int _ _) .nil) (.bool _) ?_
 conv=>whnf
 refine aI (λh=>?_) (λh=>?_)
 .conv=>whnf
  refine aA (.int _ _) ⟨?_,rfl,rfl⟩;simp at h;simp[wG,h]
 conv=>whnf
 refine aI (λh'=>?_) (λh'=>?_)
 .conv=>whnf
  refine aA (.int _ _) ⟨?_,rfl,rfl⟩;simp at h h';simp only[wG];rw[aAe om,aAh om]
 .conv=>whnf
  refine aA (.int _ _) ⟨?_,rfl,rfl⟩;simp at h h';simp only[wG];rw[aAe om,aAe om]
theorem V6(x y:List UInt8):aT prog [] 177 [.str x,.str y] (.int .i64 (lK x y)):=by
 refine jK bE func177 rfl ?_
 conv=>whnf
 refine(QD x).use bE (.cons (.str _) .nil) (.bool _) ?_
 conv=>whnf
 refine(QD y).use bE (.cons (.str _) .nil) (.bool _) ?_
 conv=>whnf
 refine aI (λh=>?_) (λh=>?_)
 .conv=>whnf
  refine aA (.int _ _) ⟨?_,rfl,rfl⟩;rw[HF.1 h]
 conv=>whnf
 refine aI (λh'=>?_) (λh'=>?_)
 .conv=>whnf
  refine aA (.int _ _) ⟨?_,rfl,rfl⟩;rw[OC h h']
 .conv=>whnf
  refine aA (.int _ _) ⟨?_,rfl,rfl⟩;rw[PY h h']
theorem T7(l1 l2:List aQ)(hb:l1.length<=4294967296)(hc:∀a∈l1,∀b∈l2,aT prog [] 106 [cO a,cO b] (.int .i64 (cJ a b))) :
  aT prog [] 178 [.il 4 (aU l1),.il 4 (aU l2),.fn (.func 106) [] []] (.int .i64 (g5 l1 l2)):=by
 have n1:NN (.il 4 (aU l1)):=.il' (bK l1);have n2:NN (.il 4 (aU l2)):=.il' (bK l2);have n3:NN (.fn (.func 106) [] []):=.fn _ _ _ sq sq;refine jK bE func178 rfl ?_
 conv=>whnf
 refine gC.loopAt bE (λk:Nat=>k<=l1.length/\k<=l2.length/\g5 l1 l2=g5 (l1.drop k) (l2.drop k))
  (λk=>⟨[(0,.il 4 (aU l1)),(1,.il 4 (aU l2)),(2,.fn (.func 106) [] []),(11,.il 4 (aU l1)),(12,.int .i64 (aU l1).length),(13,.int .i64 k)],[],0,39⟩)
  (λk=>l1.length-k) 0 [] ⟨sq,sq,sq⟩
  (bX ⟨aM n1,aM n2,aM n3,aM n1,aM (.int _ _),aM (.int _ _),trivial⟩) ?_
 rintro k ⟨h1,h2,h3⟩
 conv=>whnf
 refine aI (λh=>?_) (λh=>?_)
 .have hk:k<l1.length:=by rw[aC] at h;simpa using h
  obtain⟨⟨ka,na,sa,ksa⟩,hv⟩:∃v,v=l1[k]:=⟨_,rfl⟩
  have hm:aQ.mk ka na sa ksa∈l1:=by rw[hv];exact aAq hk
  have e:(aU l1)[(k:Int).toNat]? = some (cO (.mk ka na sa ksa)):=by rw[aAc,gQ,aAa hk,hv];rfl
  conv=>whnf
  refine aB e ?_
  conv=>whnf
  refine aI (λh'=>?_) (λh'=>?_)
  .have hk2:k=l2.length:=by rw[aC] at h';simp at h';omega
   conv=>whnf
   refine aA (.int _ _) ⟨?_,rfl,rfl⟩;rw[h3,aBk (l:=l2) om,List.drop_eq_getElem_cons hk,g5]
  .have hk2:k<l2.length:=by rw[aC] at h';simpa using h'
   obtain⟨⟨kb,nb,sb,ksb⟩,hv2⟩:∃v,v=l2[k]:=⟨_,rfl⟩
   have hm2:aQ.mk kb nb sb ksb∈l2:=by rw[hv2];exact aAq hk2
   have e2:(aU l2)[(k:Int).toNat]? = some (cO (.mk kb nb sb ksb)):=by rw[aAc,gQ,aAa hk2,hv2];rfl
   conv=>whnf
   refine aB e2 ?_
   conv=>whnf
   refine(hc _ hm _ hm2).use bE (.cons (dC _) (.cons (dC _) .nil)) (.int _ _) ?_
   conv=>whnf
   have hs:=Hd hk hk2;rw[<-hv,<-hv2] at hs;refine aI (λh4=>?_) (λh4=>?_)
   .conv=>whnf
    refine aA (.int _ _) ⟨?_,rfl,rfl⟩;have h4:cJ (.mk ka na sa ksa) (.mk kb nb sb ksb)≠0:=su h4
    rw[h3,hs,andThen,aAe h4]
   .have h4:cJ (.mk ka na sa ksa) (.mk kb nb sb ksb)=0:=su h4
    conv=>whnf
    refine .mk (k+1) [] ⟨om,om, ?_⟩ (bX ⟨aM n1,aM n2,aM n3,aM n1,aM (.int _ _),⟨_,rfl,.eq (.int _ _) ?_⟩,trivial⟩) om
    .rw[h3,hs,andThen,aAh h4]
    .rw[aV oq];rfl
 .have hk:k=l1.length:=by rw[aC] at h;simp at h;omega
  have hd:l1.drop k=[]:=aBk om
  conv=>whnf
  refine aI (λh'=>?_) (λh'=>?_)
  .have hk2:l1.length<l2.length:=by rw[aC,aC] at h';simpa using h'
   conv=>whnf
   refine aA (.int _ _) ⟨?_,rfl,rfl⟩;rw[h3,hd,List.drop_eq_getElem_cons (show k<l2.length by omega),g5]
  .have hk2:l2.length<=l1.length:=by rw[aC,aC] at h';simpa using h'
   conv=>whnf
   refine aA (.int _ _) ⟨?_,rfl,rfl⟩;rw[h3,hd,aBk om,g5]
theorem rZ:∀(a b:aQ),iO a->aT prog [] 106 [cO a,cO b] (.int .i64 (cJ a b))
 | .mk ka na sa ksa,.mk kb nb sb ksb,ha=>by
  simp only[iO] at ha;have hkids:∀a∈ksa,∀b∈ksb,aT prog [] 106 [cO a,cO b] (.int .i64 (cJ a b)):=λa hm b _=>rZ a b (jO ha.2.2.2.2 a hm)
  refine jK bE func106 rfl ?_
  conv=>whnf
  refine(Q3 ka kb).use bE (.cons (.int _ _) (.cons (.int _ _) .nil)) (.int _ _) ?_
  conv=>whnf
  refine aI (λh=>?_) (λh=>?_)
  .conv=>whnf
   refine aA (.int _ _) ⟨?_,rfl,rfl⟩;have h:wG ka kb≠0:=su h
   rw[cJ,andThen,aAe h]
  have h:wG ka kb=0:=su h
  conv=>whnf
  refine(Q3 na nb).use bE (.cons (.int _ _) (.cons (.int _ _) .nil)) (.int _ _) ?_
  conv=>whnf
  refine aI (λh2=>?_) (λh2=>?_)
  .conv=>whnf
   refine aA (.int _ _) ⟨?_,rfl,rfl⟩;have h2:wG na nb≠0:=su h2
   rw[cJ,andThen,aAh h,andThen,aAe h2]
  have h2:wG na nb=0:=su h2
  conv=>whnf
  refine(V6 sa sb).use bE (.cons (.str _) (.cons (.str _) .nil)) (.int _ _) ?_
  conv=>whnf
  refine aI (λh3=>?_) (λh3=>?_)
  .conv=>whnf
   refine aA (.int _ _) ⟨?_,rfl,rfl⟩;have h3:lK sa sb≠0:=su h3
   rw[cJ,andThen,aAh h,andThen,aAh h2,andThen,aAe h3]
  have h3:lK sa sb=0:=su h3
  conv=>whnf
  refine(T7 ksa ksb ha.2.2.2.1 hkids).use bE (.cons (.il' (bK _)) (.cons (.il' (bK _)) (.cons (.fn _ _ _ sq sq) .nil))) (.int _ _) ?_
  conv=>whnf
  refine aA (.int _ _) ⟨?_,rfl,rfl⟩;rw[cJ,andThen,aAh h,andThen,aAh h2,andThen,aAh h3]
 termination_by a=>SizeOf.sizeOf a
 decreasing_by simp;have:=aBE hm;omega
theorem KS(b:Bool):aT prog [] 149 [.bool b] (.int .i64 (if b then -1 else 1)):=by
 refine jK bE func149 rfl ?_
 conv=>whnf
 refine aI (λh=>?_) (λh=>?_)
 .conv=>whnf
  exact aA (.int _ _) ⟨by rw[h];rfl,rfl,rfl⟩
 .conv=>whnf
  exact aA (.int _ _) ⟨by rw[h];rfl,rfl,rfl⟩
theorem tK:∀(a b:aQ),iO a->aT prog [] 93 [cO a,cO b] (.int .i64 (cJ a b))
 | .mk ka na sa ksa,.mk kb nb sb ksb,ha=>by
  simp only[iO] at ha;have hb:ksa.length<=4294967296:=ha.2.2.2.1;have hkids:∀a∈ksa,∀b∈ksb,aT prog [] 93 [cO a,cO b] (.int .i64 (cJ a b)):=λa hm b _=>tK a b (jO ha.2.2.2.2 a hm)
  refine jK bE func93 rfl ?_
  conv=>whnf
  refine aI (λh=>?_) (λh=>?_)
  .conv=>whnf
   refine(KS _).use bE (.cons (.bool _) .nil) (.int _ _) ?_
   conv=>whnf
   refine aA (.int _ _) ⟨?_,rfl,rfl⟩;rw[PS (su h)];simp
  have h:ka=kb:=su h
  conv=>whnf
  refine aI (λh2=>?_) (λh2=>?_)
  .conv=>whnf
   refine(KS _).use bE (.cons (.bool _) .nil) (.int _ _) ?_
   conv=>whnf
   refine aA (.int _ _) ⟨?_,rfl,rfl⟩;rw[Q9 h (su h2)];simp
  have h2:na=nb:=su h2
  conv=>whnf
  refine aI (λh3=>?_) (λh3=>?_)
  .conv=>whnf
   refine(KS _).use bE (.cons (.bool _) .nil) (.int _ _) ?_
   conv=>whnf
   refine aA (.int _ _) ⟨?_,rfl,rfl⟩;rw[XA h h2 (su h3)]
  have h3:sa=sb:=su h3
  have hcmp:cJ (.mk ka na sa ksa) (.mk kb nb sb ksb)=g5 ksa ksb:=Wt h h2 h3
  conv=>whnf
  refine gC.loopAt bE (λk:Nat=>k<=ksa.length/\k<=ksb.length/\g5 ksa ksb=g5 (ksa.drop k) (ksb.drop k))
   (λk=>⟨[(2,.ptr 0 0 0),(3,.ptr 1 0 0),(5,.int .i64 k)],[(1,.row 55 4 [cO (.mk kb nb sb ksb)]),(0,.row 55 4 [cO (.mk ka na sa ksa)])],2,83⟩)
   (λk=>ksa.length-k) 0 [(0,0),(1,1)] ⟨sq,sq,sq⟩
   (aE _ rfl ⟨aL 1 (.cons (dC _) .nil),aL 0 (.cons (dC _) .nil),trivial⟩ ⟨aF,aF,aM (.int _ _),trivial⟩) ?_
  rintro k ⟨h4,h5,h6⟩
  conv=>whnf
  refine aI (λh7=>?_) (λh7=>?_)
  .have hk:k<ksa.length:=by rw[aC] at h7;simpa using h7
   rw[h7]
   conv=>whnf
   refine aI (λh8=>?_) (λh8=>?_)
   .have hk2:k<ksb.length:=by rw[aC] at h8;simpa using h8
    conv=>whnf
    have e1:=Hg hk;have e2:=Hg hk2;obtain⟨⟨k1,n1,s1,ks1⟩,hv1⟩:∃v,v=ksa[k]:=⟨_,rfl⟩
    obtain⟨⟨k2,n2,s2,ks2⟩,hv2⟩:∃v,v=ksb[k]:=⟨_,rfl⟩
    rw[<-hv1] at e1;rw[<-hv2] at e2;refine aB e1 ?_
    conv=>whnf
    refine aB e2 ?_
    conv=>whnf
    have hm1:aQ.mk k1 n1 s1 ks1∈ksa:=by rw[hv1];exact aAq hk
    have hm2:aQ.mk k2 n2 s2 ks2∈ksb:=by rw[hv2];exact aAq hk2
    have hs:=Hd hk hk2;rw[<-hv1,<-hv2] at hs;refine(hkids _ hm1 _ hm2).use bE (.cons (dC _) (.cons (dC _) .nil)) (.int _ _) ?_
    conv=>whnf
    refine aI (λh9=>?_) (λh9=>?_)
    .have h9:cJ (.mk k1 n1 s1 ks1) (.mk k2 n2 s2 ks2)≠0:=su h9
     conv=>whnf
     refine aA (.int _ _) ⟨?_,rfl,rfl⟩;rw[hcmp,h6,hs,andThen,aAe h9]
    .have h9:cJ (.mk k1 n1 s1 ks1) (.mk k2 n2 s2 ks2)=0:=su h9
     conv=>whnf
     refine .mk (k+1) [(0,0),(1,1)] ⟨om,om,by rw[h6,hs,andThen,aAh h9]⟩ (aE _ rfl ⟨aL 1 (.cons (dC _) .nil),aL 0 (.cons (dC _) .nil),trivial⟩ ⟨aF,aF,⟨_,rfl,.eq (.int _ _) ?_⟩,trivial⟩) om;rw[aV oq];rfl
   .have hk2:k=ksb.length:=by rw[aC] at h8;simp at h8;omega
    conv=>whnf
    refine aI (λh9=>?_) (λh9=>?_)
    .exfalso;rw[aC,aC] at h9;simp at h9;omega
    .conv=>whnf
     refine(KS _).use bE (.cons (.bool _) .nil) (.int _ _) ?_
     conv=>whnf
     refine aA (.int _ _) ⟨?_,rfl,rfl⟩;rw[hcmp,h6,aBk (l:=ksb) om,List.drop_eq_getElem_cons hk,g5,aC,aC,aAe (by simp;omega)]
  .have hk:k=ksa.length:=by rw[aC] at h7;simp at h7;omega
   have hd:ksa.drop k=[]:=aBk om;rw[h7]
   conv=>whnf
   refine aI (λh9=>?_) (λh9=>?_)
   .have h9:ksa.length=ksb.length:=by rw[aC,aC] at h9;simp at h9;omega
    conv=>whnf
    refine aA (.int _ _) ⟨?_,rfl,rfl⟩;rw[hcmp,h6,hd,aBk om,g5]
   .have h9:ksa.length≠ksb.length:=by rw[aC,aC] at h9;simp at h9;omega
    conv=>whnf
    refine(KS _).use bE (.cons (.bool _) .nil) (.int _ _) ?_
    conv=>whnf
    refine aA (.int _ _) ⟨?_,rfl,rfl⟩;rw[hcmp,h6,hd,List.drop_eq_getElem_cons (show k<ksb.length by omega),g5,aC,aC,aAh (by simp;omega)]
 termination_by a=>SizeOf.sizeOf a
 decreasing_by simp;have:=aBE hm;omega
end Go.Proofs.YtidjhgajglebnaaGreatDoor
namespace Go.Proofs
open Go.Shelf
def Tryz.lays129_ren:Go.Shelf.Ren:=⟨fun|129=>235|n=>n,fun|53=>156|3=>3|4=>4|46=>157|5=>5|9=>9|n=>n,fun|n=>n⟩
theorem Tryz.lays129:Go.Proofs.Lays.n129 Tryz.prog Tryz.lays129_ren:={
 mixed:=by kernel_rfl
 f129:=Tryz.func235.trans (congrArg some (by kernel_rfl))
 t3:=Tryz.underlying3
 a3:=Tryz.isAgg3
 z3:=Tryz.sizeOf3
 v3:=Tryz.zeroValue3
 t4:=Tryz.underlying4
 a4:=Tryz.isAgg4
 z4:=Tryz.sizeOf4
 v4:=Tryz.zeroValue4
 t5:=Tryz.underlying5
 a5:=Tryz.isAgg5
 z5:=Tryz.sizeOf5
 v5:=Tryz.zeroValue5
 t9:=Tryz.underlying9
 a9:=Tryz.isAgg9
 z9:=Tryz.sizeOf9
 v9:=Tryz.zeroValue9
 t46:=Tryz.underlying157
 a46:=Tryz.isAgg157
 z46:=Tryz.sizeOf157
 v46:=Tryz.zeroValue157
 t53:=Tryz.underlying156
 a53:=Tryz.isAgg156
 z53:=Tryz.sizeOf156
 v53:=Tryz.zeroValue156 }
theorem Tryz.bits_Len64(x:Int)(w:World)(h0:0<=x)(h1:x<=18446744073709551615) :
  Calls Tryz.prog 235 #[.int .u64 x] w λe w'=>e = .returned (.int .i64 (Lib.bitLen x.toNat))/\w'=w:=Any.bits_Len64 Tryz.lays129 x w h0 h1
def Tryz.lays317_ren:Go.Shelf.Ren:=⟨fun|317=>234|n=>n,fun|3=>3|46=>157|n=>n,fun|n=>n⟩
theorem Tryz.lays317:Go.Proofs.Lays.n317 Tryz.prog Tryz.lays317_ren:={
 mixed:=by kernel_rfl
 f317:=Tryz.func234.trans (congrArg some (by kernel_rfl))
 t3:=Tryz.underlying3
 a3:=Tryz.isAgg3
 z3:=Tryz.sizeOf3
 v3:=Tryz.zeroValue3
 t46:=Tryz.underlying157
 a46:=Tryz.isAgg157
 z46:=Tryz.sizeOf157
 v46:=Tryz.zeroValue157 }
open Go.Lib in
theorem Tryz.internal_strconv_log10Pow2(x:Nat)(h:x<=64)(w:World) :
  Calls Tryz.prog 234 #[.int .i64 x] w λe w'=>e = .returned (.int .i64 (Lib.l10 x))/\w'=w:=Any.internal_strconv_log10Pow2 Tryz.lays317 x h w
open Go.Lib in
def Tryz.lays283_ren:Go.Shelf.Ren:=⟨fun|283=>195|n=>n,fun|3=>3|9=>9|4=>4|n=>n,fun|n=>n⟩
theorem Tryz.lays283:Go.Proofs.Lays.n283 Tryz.prog Tryz.lays283_ren:={
 mixed:=by kernel_rfl
 f283:=Tryz.func195.trans (congrArg some (by kernel_rfl))
 t3:=Tryz.underlying3
 a3:=Tryz.isAgg3
 z3:=Tryz.sizeOf3
 v3:=Tryz.zeroValue3
 t4:=Tryz.underlying4
 a4:=Tryz.isAgg4
 z4:=Tryz.sizeOf4
 v4:=Tryz.zeroValue4
 t9:=Tryz.underlying9
 a9:=Tryz.isAgg9
 z9:=Tryz.sizeOf9
 v9:=Tryz.zeroValue9 }
open Go.Lib in
theorem Tryz.internal_strconv_small(i:Nat)(h:i<100)(w:World) :
  Calls Tryz.prog 195 #[.int .i64 i] w λe w'=>e = .returned (.string ⟨(Lib.decDigits i).toArray⟩)/\w'=w:=Any.internal_strconv_small Tryz.lays283 i h w
def Tryz.lays285_ren:Go.Shelf.Ren:=⟨fun|285=>197|n=>n,fun|37=>88|53=>156|3=>3|4=>4|51=>81|9=>9|5=>5|0=>0|n=>n,fun|n=>n⟩
theorem Tryz.lays285:Go.Proofs.Lays.n285 Tryz.prog Tryz.lays285_ren:={
 mixed:=by kernel_rfl
 f285:=Tryz.func197.trans (congrArg some (by kernel_rfl))
 t0:=Tryz.underlying0
 a0:=Tryz.isAgg0
 z0:=Tryz.sizeOf0
 v0:=Tryz.zeroValue0
 t3:=Tryz.underlying3
 a3:=Tryz.isAgg3
 z3:=Tryz.sizeOf3
 v3:=Tryz.zeroValue3
 t4:=Tryz.underlying4
 a4:=Tryz.isAgg4
 z4:=Tryz.sizeOf4
 v4:=Tryz.zeroValue4
 t5:=Tryz.underlying5
 a5:=Tryz.isAgg5
 z5:=Tryz.sizeOf5
 v5:=Tryz.zeroValue5
 t9:=Tryz.underlying9
 a9:=Tryz.isAgg9
 z9:=Tryz.sizeOf9
 v9:=Tryz.zeroValue9
 t37:=Tryz.underlying88
 a37:=Tryz.isAgg88
 z37:=Tryz.sizeOf88
 v37:=Tryz.zeroValue88
 t51:=Tryz.underlying81
 a51:=Tryz.isAgg81
 z51:=Tryz.sizeOf81
 v51:=Tryz.zeroValue81
 t53:=Tryz.underlying156
 a53:=Tryz.isAgg156
 z53:=Tryz.sizeOf156
 v53:=Tryz.zeroValue156 }
open Go.RowKit Go.Sort Go.Lib in
theorem Tryz.internal_strconv_formatBase10(blk off cap:Nat)(u:Nat)(d:Array UInt8)(w:World)(hH:Holds (λ(b:UInt8)=>Value.int .u8 (b.toNat:Int)) w blk off d)(hu:u<10 ^ d.size)(hu64:u<18446744073709551616)(hsz:d.size<4611686018427387904) :
  Calls Tryz.prog 197 #[.slice (some ⟨blk,off,none⟩) d.size cap,.int .u64 u] w λe w'=>
   e = .returned (.tuple #[])/\∃(n v':Nat) (dk:Array UInt8),w'=(putRow (λ(b:UInt8)=>Value.int .u8 (b.toNat:Int)) w blk off dk).drewN n/\FmtInv d.size u 0 v' dk:=Any.internal_strconv_formatBase10 Tryz.lays285 blk off cap u d w hH hu hu64 hsz
end Go.Proofs
namespace Go.Proofs.YtidjhgajglebnaaGreatDoor
open Go Go.Ax Go.Proofs Tryz
variable{J:List (Nat × Nat)}{n i nx j:Nat}{mem:aP}{xs:List AV}
theorem eA:∀p∈gz,NN p.2:=λp hp=>by
 simp only[gz,aAj,List.not_mem_nil,or_false] at hp;rcases hp with rfl|rfl|rfl
 .exact nn
 .exact nn
 .exact nn
theorem WY(u:Nat)(h:u<18446744073709551616):aT prog [] 235 [.int .u64 u] (.int .i64 (Lib.bitLen u)):=
 Ec (λ_ _ _ _ _ h=>Hi h) λw _=>(Tryz.bits_Len64 u w om om).mono λe w' ⟨h1,h2⟩=>⟨_,h1,λ_ _ _ _=>.int _ _,by rw[h2];exact .refl w⟩
theorem WZ(x:Nat)(h:x<=64):aT prog [] 234 [.int .i64 x] (.int .i64 (Lib.l10 x)):=
 Ec (λ_ _ _ _ _ h=>Hi h) λw _=>(Tryz.internal_strconv_log10Pow2 x h w).mono λe w' ⟨h1,h2⟩=>⟨_,h1,λ_ _ _ _=>.int _ _,by rw[h2];exact .refl w⟩
theorem WS(i:Nat)(h:i<100):aT prog [] 195 [.int .i64 i] (.str (Lib.decDigits i)):=
 Ec (λ_ _ _ _ _ h=>Hi h) λw _=>(Tryz.internal_strconv_small i h w).mono λe w' ⟨h1,h2⟩=>⟨_,h1,λ_ _ _ _=>.str _,by rw[h2];exact .refl w⟩
theorem Wk(b:Bool):aT prog [] 236 [.bool b] (.int .i64 (if b then 1 else 0)):=by
 cases b
 all_goals
  refine aD bE func236 rfl ?_;refine Rr ?_;exact aA nn ⟨rfl,rfl,rfl⟩
theorem Py(t:TypeId)(xs:List UInt8)(u:Nat)(hu64:u<18446744073709551616)(hlen:1+Lib.nDigits u<=xs.length)(hxl:xs.length<=1000) :
  aH prog [] 197 [.sl 0 1 (Lib.nDigits u),.int .u64 u] [(0,.row t 1 (eF xs))] 1 λr m n=>r = .tup []/\m=[(0,.row t 1 (eF (xs.take 1++Lib.decDigits u++xs.drop (1+Lib.nDigits u))))]:=
 Xv Tryz.internal_strconv_formatBase10 xs u hu64 hlen hxl
def XZ:List AV:=[.int .u64 1,.int .u64 10,.int .u64 100,.int .u64 1000,.int .u64 10000,.int .u64 100000,.int .u64 1000000,.int .u64 10000000,.int .u64 100000000,.int .u64 1000000000,.int .u64 10000000000,.int .u64 100000000000,.int .u64 1000000000000,.int .u64 10000000000000,.int .u64 100000000000000,.int .u64 1000000000000000,.int .u64 10000000000000000,.int .u64 100000000000000000,.int .u64 1000000000000000000,.int .u64 10000000000000000000]
theorem Wu(q:Nat)(h:q<=19):XZ[q]? = some (.int .u64 ((10 ^ q:Nat):Int)):=by
 rcases(show q=0\/q=1\/q=2\/q=3\/q=4\/q=5\/q=6\/q=7\/q=8\/q=9\/q=10\/q=11\/q=12\/q=13\/q=14\/q=15\/q=16\/q=17\/q=18\/q=19 by omega) with rfl|rfl|rfl|rfl|rfl|rfl|rfl|rfl|rfl|rfl|rfl|rfl|rfl|rfl|rfl|rfl|rfl|rfl|rfl|rfl<;>rfl
theorem E4(u:Nat)(h1:1<=u)(h2:u<18446744073709551616):aT prog gz 196 [.int .u64 u] (.int .i64 (Lib.nDigits u)):=by
 obtain⟨e1,e2⟩:=Lib.numDigits_eq u h1 h2;have hL:=WY u h2;have hb:Lib.bitLen u<=64:=Lib.bitLen_le u 64 (aAp _) h2;generalize Lib.bitLen u=L at *;have hq:=WZ L hb;generalize Lib.l10 L=q at *;generalize Lib.nDigits u=nd at *;have htab:=Wu q e2;refine aD eA func196 rfl ?_;refine Rr ?_;refine hL.goG ?_;refine Rr ?_;refine hq.goG ?_;refine Rr ?_;refine aN (b:=Nat.blt q 20) (aAf om) ?_;refine Rr ?_;have htab':XZ[((q:Int)).toNat*1]? = some (.int .u64 ((10 ^ q:Nat):Int)):=su htab
 clear htab;have hpq:∃pq:Int,pq=((10 ^ q:Nat):Int):=⟨_,rfl⟩
 obtain⟨pq,hpq⟩:=hpq;rw[<-hpq] at htab';refine aB htab' ?_;refine Rr ?_;refine(Wk _).goG ?_;refine Rr ?_;refine aA nn ⟨?_,rfl,rfl⟩;congr 1;have hle:decide ((u:Int)≥pq)=decide (10 ^ q<=u):=by rw[hpq];simp only[ge_iff_le,Int.ofNat_le]
 have hnd:nd<=20:=by rw[<-e1];split<;>omega
 rw[hle,w64 (y:=(nd:Int)) _ oq];rw[<-e1];by_cases hc:10 ^ q<=u<;>simp[hc]
theorem Ap(u:Nat)(h2:u<18446744073709551616):Lib.nDigits u<=20:=by
 by_cases h1:1<=u
 .obtain⟨e1,e2⟩:=Lib.numDigits_eq u h1 h2;rw[<-e1];split<;>omega
 .rw[Lib.nDigits_small om];omega
theorem F9(n:Int):IntKind.u64.wrap n=n%18446744073709551616:=by
 simp[IntKind.wrap,IntKind.bits,IntKind.signed]
theorem LU(n:Int)(hn:i64 n):aT prog gz 134 [.int .i64 n,.int .i64 10] (.str (Lib.itoa n)):=by
 rcases(show (0<=n/\n<100)\/100<=n\/n<0 by omega) with⟨h0,h1⟩|h1|h1
 .obtain⟨i,rfl⟩:∃i:Nat,n=i:=⟨n.toNat,om⟩
  have d2:decide ((i:Int)<100)=true:=su h1
  refine aD eA func134 rfl ?_;refine Rr ?_;rw[d2];refine Rr ?_;refine(WS i om).goG ?_;refine Rr ?_;refine aA nn ⟨?_,rfl,rfl⟩;rw[Lib.itoa_nonneg]
 .obtain⟨u,rfl⟩:∃i:Nat,n=i:=⟨n.toNat,om⟩
  have d2:decide ((u:Int)<100)=false:=by simp;omega
  have d3:decide ((u:Int)<0)=false:=sq
  unfold i64 at hn;have hw:IntKind.u64.wrap (u:Int)=(u:Int):=by rw[F9];omega
  have hu64:u<18446744073709551616:=om;have hnd:=Ap u hu64;have hF:=(Py 291 (List.replicate 24 0) u hu64 (by simp;omega) sq).glob (Z:=gz);have hdl:=Lib.decDigits_length u;have hN:=E4 u om hu64;have hdd:(Lib.decDigits u++List.drop (1+Lib.nDigits u) (List.replicate 24 0)).length=23:=by simp[hdl];omega
  have hit:=Lib.itoa_nonneg u;generalize Lib.nDigits u=nd at hN hF hnd hdl hdd;generalize Lib.decDigits u=ds at hF hdl hit hdd;refine aD eA func134 rfl ?_;refine Rr ?_;rw[d2];refine Rr ?_;rw[hw];refine hN.use eA dO nn ?_;refine Rr ?_;rw[w64 (x:=1+(nd:Int)) (y:=((1+nd:Nat):Int)) om oq];refine Rr ?_;refine aN (Kf (by simp;omega) (by simp;omega) sq) ?_;refine Rr ?_;refine aH.useI eA [0] hF (by rfl) (.cons (.slE rfl (by simp;omega)) (.s .nil)) ⟨aL 0 (c7 _),trivial⟩ rfl ?_;rintro r m n' ⟨rfl,rfl⟩;refine⟨nn,⟨aL 0 (c7 _),trivial⟩,rfl, ?_⟩;have hlist:List.take 1 (List.replicate 24 (0:UInt8))++ds++List.drop (1+nd) (List.replicate 24 0)=0::(ds++List.drop (1+nd) (List.replicate 24 0)):=rfl;rw[hlist];have htk:List.take nd (ds++List.drop (1+nd) (List.replicate 24 0))=ds:=by rw[aCR om,aAk om]
  generalize ds++List.drop (1+nd) (List.replicate 24 0)=rest at hdd htk;have hrl:(eF (0::rest)).length=24:=by rw[dN];simp[hdd]
  refine Rr ?_;refine aN (by rw[aAd];exact⟨rfl,aAf (by rw[hrl];omega)⟩) ?_;refine Rr ?_;rw[w64 (x:=1+(nd:Int)) (y:=((1+nd:Nat):Int)) om oq];refine Rr ?_;refine aN (Kf (by simp;omega) (by simp;omega) sq) ?_;refine Rr ?_;refine aN (aAf (by rw[hrl];simp;omega)) ?_;refine aB (a:=ds) ?_ ?_
  .rw[G4,CU,oD]
   show some (List.take ((((1+nd:Nat):Int)).toNat-1) rest)=some ds
   rw[<-htk];congr 2;simp;omega
  refine Rr ?_;refine aA nn ⟨?_,rfl,rfl⟩;rw[hit]
 .obtain⟨u,rfl⟩:∃i:Nat,n = -(i:Int):=⟨(-n).toNat,om⟩
  have d1:decide (0<=-(u:Int))=false:=by simp;omega
  have d3:decide (-(u:Int)<0)=true:=by simp;omega
  unfold i64 at hn;have hw:IntKind.u64.wrap (0-IntKind.u64.wrap (-(u:Int)))=(u:Int):=by rw[F9,F9];omega
  have hu64:u<18446744073709551616:=om;have hnd:=Ap u hu64;have hF:=(Py 291 (List.replicate 24 0) u hu64 (by simp;omega) sq).glob (Z:=gz);have hdl:=Lib.decDigits_length u;have hN:=E4 u om hu64;have hdd:(Lib.decDigits u++List.drop (1+Lib.nDigits u) (List.replicate 24 0)).length=23:=by simp[hdl];omega
  have hit:=Lib.itoa_neg u om;generalize Lib.nDigits u=nd at hN hF hnd hdl hdd;generalize Lib.decDigits u=ds at hF hdl hit hdd;refine aD eA func134 rfl ?_;refine Rr ?_;rw[d1];refine Rr ?_;rw[d3];refine Rr ?_;rw[hw];refine hN.use eA dO nn ?_;refine Rr ?_;rw[w64 (x:=1+(nd:Int)) (y:=((1+nd:Nat):Int)) om oq];refine Rr ?_;refine aN (Kf (by simp;omega) (by simp;omega) sq) ?_;refine Rr ?_;refine aH.useI eA [0] hF (by rfl) (.cons (.slE rfl (by simp;omega)) (.s .nil)) ⟨aL 0 (c7 _),trivial⟩ rfl ?_;rintro r m n' ⟨rfl,rfl⟩;refine⟨nn,⟨aL 0 (c7 _),trivial⟩,rfl, ?_⟩;have hlist:List.take 1 (List.replicate 24 (0:UInt8))++ds++List.drop (1+nd) (List.replicate 24 0)=0::(ds++List.drop (1+nd) (List.replicate 24 0)):=rfl;rw[hlist];have htk:List.take nd (ds++List.drop (1+nd) (List.replicate 24 0))=ds:=by rw[aCR om,aAk om]
  generalize ds++List.drop (1+nd) (List.replicate 24 0)=rest at hdd htk;have hrl:∀b,(eF (b::rest)).length=24:=λb=>by rw[dN];simp[hdd]
  refine Rr ?_;rw[d3];refine Rr ?_;refine aN (by rw[aAd];exact⟨rfl,aAf (Nat.le_of_eq (hrl 45).symm)⟩) ?_;refine Rr ?_;rw[w64 (x:=1+(nd:Int)) (y:=((1+nd:Nat):Int)) om oq];refine Rr ?_;refine aN (Kf sq (by simp;omega) sq) ?_;refine Rr ?_;refine aN (aAf (show _<=(eF (45::rest)).length by rw[hrl];simp;omega)) ?_;refine aB (a:=45::ds) (show gB (List.take ((((1+nd:Nat):Int)).toNat-0) (List.drop (0+0) (eF (45::rest))))=_ from ?_) ?_
  .rw[G4,CU,oD];have e:(((1+nd:Nat):Int)).toNat-0=nd+1:=by simp;omega
   rw[e]
   show some (45::List.take nd rest)=_
   rw[htk]
  refine Rr ?_;refine aA nn ⟨?_,rfl,rfl⟩;rw[hit]
theorem WL(n:Int)(hn:i64 n):aT prog gz 84 [.int .i64 n] (.str (Lib.itoa n)):=by
 have h:=LU n hn;generalize Lib.itoa n=r at h;refine aD eA func84 rfl ?_;refine Rr ?_;refine h.use eA dO nn ?_;refine Rr ?_;exact aA nn ⟨rfl,rfl,rfl⟩
theorem Xm(n:Int)(hn:i64 n):aT prog gz 40 [.int .i64 n] (.str (Lib.itoa n)):=by
 have h:=WL n hn;generalize Lib.itoa n=r at h;refine aD eA func40 rfl ?_;refine Rr ?_;refine h.use eA dO nn ?_;refine Rr ?_;exact aA nn ⟨rfl,rfl,rfl⟩
def Y1:Bool->AV
 | true=>.ptr 0 0 0
 | false=>.nptr
abbrev bC(a:AV)(id n:Nat):AB:=.row 90 2 [.agg [a,.sl id 0 n]]
abbrev bM(a:Bool)(s:List UInt8):aP:=[(0,bC (Y1 a) 1 s.length),(1,.row 5 1 (eF s))]
def bN(s:List UInt8)(m:aP)(n:Nat):Prop:=m=[(0,bC (.ptr 0 0 0) 2 s.length),(2,.row 5 1 (eF s))]/\n=3
theorem Ha{a:Bool}(h0:lk J 0=some 0)(h1:lk J i=some j):sH mem J [.agg [Y1 a,.sl i 0 n]] [.agg [Y1 a,.sl j 0 n]]:=
 .cons (.agg (.cons (by cases a;exact .same _ nn;exact .ptr 0 0 0 0 h0) (.cons (.sl i j 0 n h1) .nil))) .nil
theorem Rn(a:Bool)(s:List UInt8):aH prog [] 89 [.ptr 0 0 0] (bM a s) 2 λr m n=>r = .tup []/\m=bM true s/\n=2:=by
 refine aD bE func89 rfl ?_;cases a with
 | false=>
  refine Rr ?_;exact aW (r':=.tup []) (m':=bM true s) (n':=2) [(0,0),(1,1)] rfl ⟨⟨0,_,rfl,rfl,Ha (a:=true) rfl rfl⟩,aL 1 (c7 _),trivial⟩ (.same _ nn) ⟨rfl,rfl,rfl⟩
 | true=>
  refine Rr ?_;exact aW (r':=.tup []) (m':=bM true s) (n':=2) [(0,0),(1,1)] rfl ⟨⟨0,_,rfl,rfl,Ha (a:=true) rfl rfl⟩,aL 1 (c7 _),trivial⟩ (.same _ nn) ⟨rfl,rfl,rfl⟩
theorem Nt(a:Bool)(s w:List UInt8)(hs:s.length+w.length<=100000000):aH prog [] 43 [.ptr 0 0 0,.str w] (bM a s) 2 λr m n=>r = .tup [.int .i64 w.length,.nif]/\bN (s++w) m n:=by
 refine aD bE func43 rfl ?_;refine Rr ?_;refine aH.useI bE [0,1] (Rn a s) rfl (.cons (.ptr 0 0 0 0 rfl) .nil) ⟨⟨0,_,rfl,rfl,Ha rfl rfl⟩,aL 1 (c7 _),trivial⟩ rfl ?_;rintro r m n ⟨rfl,rfl,rfl⟩;refine⟨nn,⟨⟨0,_,rfl,rfl,Ha (a:=true) rfl rfl⟩,aL 1 (c7 _),trivial⟩,rfl, ?_⟩;refine Rr ?_;have e:List.map (λb:UInt8=>AV.int IntKind.u8 (b.toNat:Int)) w=eF w:=rfl;rw[e];refine aN (cD rfl rfl (dN _).symm (by rw[dN];omega)) ?_;refine Rr ?_;exact aW (r':=.tup [.int .i64 w.length,.nif]) (m':=[(0,bC (.ptr 0 0 0) 2 (s++w).length),(2,.row 5 1 (eF (s++w)))]) (n':=3) [(0,0),(2,2)] rfl
  ⟨⟨0,_,rfl,rfl,.cons (.agg (.cons (.ptr 0 0 0 0 rfl) (.cons (.slE rfl (by rw[dN,aAA])) .nil))) .nil⟩,⟨2,_,rfl,rfl,.eq (c7 _) (kN _ _).symm⟩,trivial⟩ (.same _ nn) ⟨rfl,rfl,rfl⟩
theorem Yb(a:Bool)(s:List UInt8)(c:UInt8)(hs:s.length<=100000000):aH prog [] 42 [.ptr 0 0 0,.int .u8 c.toNat] (bM a s) 2 λr m n=>r = .nif/\bN (s++[c]) m n:=by
 refine aD bE func42 rfl ?_;refine Rr ?_;refine aH.useI bE [0,1] (Rn a s) rfl (.cons (.ptr 0 0 0 0 rfl) .nil) ⟨⟨0,_,rfl,rfl,Ha rfl rfl⟩,aL 1 (c7 _),trivial⟩ rfl ?_;rintro r m n ⟨rfl,rfl,rfl⟩;refine⟨nn,⟨⟨0,_,rfl,rfl,Ha (a:=true) rfl rfl⟩,aL 1 (c7 _),trivial⟩,rfl, ?_⟩;refine Rr ?_;refine aN (cD rfl rfl (dN _).symm (by simp;omega)) ?_;refine Rr ?_;exact aW (r':=.nif) (m':=[(0,bC (.ptr 0 0 0) 2 (s++[c]).length),(2,.row 5 1 (eF (s++[c])))]) (n':=3) [(0,0),(3,2)] rfl
  ⟨⟨0,_,rfl,rfl,.cons (.agg (.cons (.ptr 0 0 0 0 rfl) (.cons (.slE rfl sq) .nil))) .nil⟩,⟨3,_,rfl,rfl,.eq (c7 _) (by rw[kN];rfl)⟩,trivial⟩ (.same _ nn) ⟨rfl,rfl,rfl⟩
theorem B3{ids:List Nat}{k:Nat}(hk:Dc k ids=true):∀(m:aP),lk (i5 ids m) k=lk m k
 | []=>rfl
 | (j,b)::r=>by
  simp only[i5,lk];split
  .simp only[lk,B3 hk r]
  .rename_i h;rw[B3 hk r];split
   .rename_i e;rw[Nat.eq_of_beq_eq_true e,hk] at h;cases h
   .rfl
theorem ZJ(a:AB)(c:UInt8)(w:List UInt8)(hl:w.length<=9000000000000):tS prog [(0,a),(1,.row 5 1 (eF (c::w)))] 163 (.ptr 1 0 0) (.int .i64 (((c::w).length:Nat):Int))=some (.str (c::w),[(0,a)]):=by
 have e1:(((c::w).length:Nat):Int)=Int.ofNat (w.length+1):=rfl;have hb:pH (List.take (w.length+1) (eF (c::w)))=some (c::w):=by rw[CU,Bn,aAk sq]
 have hce:Tryz.prog.cellsOf 5=1:=by kernel_rfl
 have hbl:Nat.ble (w.length+1) 9223372036854775807=true:=aAf om;have hq:Nat.beq (c::w).length (w.length+1)=true:=sq
 rw[e1];simp only[tS,lk,Tryz.underlying163,hce,hbl,hb,hq,drop];rfl
theorem Vf(s:List UInt8)(hs:s≠[])(hl:s.length<=1000000000):aH prog [] 44 [.ptr 0 0 0] (bM true s) 2 λr m n=>r = .str s/\m=[]/\n=2:=by
 refine aD bE func44 rfl ?_;obtain⟨c,w,rfl⟩:∃c w,s=c::w:=by
  cases s with
  | nil=>exact absurd rfl hs
  | cons c w=>exact⟨c,w,rfl⟩
 refine Rt ?_;rw[ZJ _ c w (by simp at hl;omega)];refine Rr ?_;exact aW (r':=.str (c::w)) (m':=[]) (n':=2) [] rfl trivial (.same _ nn) ⟨rfl,rfl,rfl⟩
abbrev wC(id n:Nat):AB:=.row 288 1 [.agg [.sl id 0 n]]
abbrev wM(s:List UInt8):aP:=[(0,wC 1 s.length),(1,.row 5 1 (eF s))]
def wN(s:List UInt8)(m:aP)(n:Nat):Prop:=m=[(0,wC 2 s.length),(2,.row 5 1 (eF s))]/\n=3
def N9(s:List UInt8)(r:AV)(m:aP)(n:Nat):Prop:=r = .tup []/\wN s m n
theorem wB{n':Nat}(h1:lk J i=some j)(h:n=n'):sH mem J [.agg [.sl i 0 n]] [.agg [.sl j 0 n']]:=
 .cons (.agg (.cons (.slE h1 h) .nil)) .nil
theorem Cr{Z:List (Nat × AV)}{F:FuncId}{aa:List AV}{s s':List UInt8}{rv:AV}{mem:aP}{nx:Nat}{K:AV->aP->Nat->Prop}(i:Nat)(hΓ:∀p∈Z,NN p.2)
  (h:aH prog Z F (.ptr 0 0 0::aa) (wM s) 2 λr m n=>r=rv/\wN s' m n) (h0:lk mem 0=some (wC i s.length)) (h1:lk mem i=some (.row 5 1 (eF s))) (hi:Nat.blt 0 i=true) (hin:Nat.blt i nx=true)
  (hk:K rv ((0,wC nx s'.length)::(nx,.row 5 1 (eF s'))::iJ [0,i] mem) (nx+1)) (ha:kZ aa:=by exact dO) (hr:NN rv:=by exact nn):aH prog Z F (.ptr 0 0 0::aa) mem nx K:=by
 have hi:=aAi hi;have hin:=aAi hin;have e0:Nat.beq 0 i=false:=pI om;have k0:Dc 0 [0,i]=true:=rfl;have ki:Dc i [0,i]=true:=by simp[Dc,e0]
 have s0:lk [(0,0),(i,1)] 0=some 0:=rfl;have si:lk [(0,0),(i,1)] i=some 1:=by simp[lk,e0]
 refine aH.useN hΓ [(0,0),(i,1)] h rfl (.cons (.ptr 0 0 0 0 rfl) (.same ha)) ⟨⟨0,_,s0,by rw[<-h0];exact B3 k0 mem,wB si rfl⟩,⟨i,_,si,by rw[<-h1];exact B3 ki mem,.same (c7 _)⟩,trivial⟩ rfl ?_;rintro r m n ⟨rfl,rfl,rfl⟩;refine⟨[(0,0),(2,nx)],_,[(0,wC nx s'.length),(nx,.row 5 1 (eF s'))],nx+1,.same _ hr,⟨⟨0,_,rfl,rfl,wB rfl rfl⟩,aL 2 (c7 _),trivial⟩, ?_,hk⟩;have e1:Nat.beq nx 0=false:=pI om;have e2:Nat.ble nx 0=false:=by
  cases e:Nat.ble nx 0 with
  | false=>rfl
  | true=>have:=aAi e;omega
 have e3:Nat.ble nx nx=true:=aAf (aAp _);have e4:Nat.ble nx (nx+1)=true:=aAf om;have e5:Nat.blt nx (nx+1)=true:=aAf om;have e6:Nat.blt 0 2=true:=rfl;have e7:Nat.blt 2 2=false:=rfl;simp only[pU,AQ,pW,E1,wJ,wA,DD,e1,e2,e3,e4,e5,e6,e7,k0,s0];rfl
theorem tY{s:List UInt8}(h0:lk mem 0=some (wC i n))(h1:lk mem i=some (.row 5 1 xs))(hi:2<=i)(hn:n=s.length)(hx:xs=eF s):rE 2 (N9 s) (.tup []) mem nx:=by
 have e0:Nat.beq 0 i=false:=pI om;have si:lk [(0,0),(i,2)] i=some 2:=by simp[lk,e0]
 exact aW (r':=.tup []) (m':=[(0,wC 2 s.length),(2,.row 5 1 (eF s))]) (n':=3) [(0,0),(i,2)] rfl
  ⟨⟨0,_,rfl,h0,wB si hn⟩,⟨i,_,si,h1,.eq (c7 _) hx⟩,trivial⟩ (.same _ nn) ⟨rfl,rfl,rfl⟩
theorem VX(s:List UInt8)(u:Nat)(hu:u<18446744073709551616)(hs:s.length<=90000000):aH prog [] 249 [.ptr 0 0 0,.int .u64 u] (wM s) 2 (N9 (s++n9 u)):=by
 have hul:=rA hu;refine aD bE func249 rfl ?_;refine Rr ?_;refine bA.at bE (λx:Nat × List UInt8=>x.2++n9 x.1=s++n9 u)
  (λx=>⟨[(0,.ptr 0 0 0),(1,.int .u64 x.1)],[(0,wC 2 x.2.length),(2,.row 5 1 (eF x.2))],3,31⟩) (λx=>x.1) (u,s) [(0,0),(1,2)] rfl
  (aE _ rfl ⟨⟨0,_,rfl,rfl,wB rfl rfl⟩,aL 1 (c7 _),trivial⟩ ⟨aF,aJ,trivial⟩) ?_
 rintro⟨n,acc⟩ hx;simp only at hx;have hal:acc.length<=s.length+10:=by have:=congrArg List.length hx;simp at this;omega
 refine Rr ?_;refine aI (λh=>?_) (λh=>?_)
 .have hn:¬n<128:=by simp at h;omega
  refine Rr ?_;refine aN (cD rfl rfl (dN _).symm (by simp;omega)) ?_;refine Rr ?_;rw[PV,ZE];refine .mk (n/128,acc++[UInt8.ofNat (128+n%128)]) [(0,0),(4,2)] ?_ (aE _ rfl ⟨⟨0,_,rfl,rfl,wB rfl sq⟩,⟨4,_,rfl,rfl,.eq (c7 _) (by rw[kN];rfl)⟩,trivial⟩ ⟨aF,aJ,trivial⟩) (by simp only;omega);rw[GF hn] at hx;simpa using hx
 .have hn:n<128:=by simp at h;omega
  refine Rr ?_;refine aN (cD rfl rfl (dN _).symm (by simp;omega)) ?_;refine Rr ?_;rw[N0 hn];rw[vE hn] at hx;exact tY (i:=4) rfl rfl om (by rw[<-hx];simp) (by rw[<-hx,kN];rfl)
theorem WA(s:List UInt8)(n:Int)(hn:i64 n)(hs:s.length<=90000000):aH prog [] 232 [.ptr 0 0 0,.int .i64 n] (wM s) 2 (N9 (s++g9 n)):=by
 have hU:=VX s (Pq n) (Hh hn) hs;refine aD bE func232 rfl ?_;have hz:=RJ hn;unfold g9;generalize Pq n=z at hU hz |-;refine Rr ?_;rw[hz];refine Cr 1 bE hU rfl rfl rfl rfl ?_;refine Rr ?_;exact tY (i:=2) rfl rfl om rfl rfl
theorem Xd(s:List UInt8)(b:Bool)(hs:s.length<=90000000):aH prog [] 263 [.ptr 0 0 0,.bool b] (wM s) 2 (N9 (s++[if b=true then 1 else 0])):=by
 refine aD bE func263 rfl ?_;cases b with
 | true=>
  refine Rr ?_;refine aN (cD rfl rfl (dN _).symm (by simp;omega)) ?_;refine Rr ?_;exact tY (i:=3) rfl rfl om sq (by rw[kN];rfl)
 | false=>
  refine Rr ?_;refine aN (cD rfl rfl (dN _).symm (by simp;omega)) ?_;refine Rr ?_;exact tY (i:=3) rfl rfl om sq (by rw[kN];rfl)
theorem Ye(s w:List UInt8)(hs:s.length+w.length<=90000000):aH prog [] 264 [.ptr 0 0 0,.str w] (wM s) 2 (N9 (s++(n9 w.length++w))):=by
 have hU:=VX s w.length om om;have hul:=rA (n:=w.length) om;have hw:IntKind.u64.wrap (w.length:Int)=(w.length:Int):=Bx om om;generalize n9 w.length=x at hU hul |-;refine aD bE func264 rfl ?_;refine Rr ?_;rw[hw];refine Cr 1 bE hU rfl rfl rfl rfl ?_;refine Rr ?_;have e:List.map (λb:UInt8=>AV.int IntKind.u8 (b.toNat:Int)) w=eF w:=rfl;rw[e];refine aN (cD rfl rfl (dN _).symm (by rw[dN];simp;omega)) ?_;refine Rr ?_;exact tY (i:=3) rfl rfl om (by rw[dN];simp;omega) (by rw[<-kN,List.append_assoc])
theorem QE:∀v:aQ,bF v<=1099511627776->aT prog [] 73 [cO v] (.int .i64 (bF v))
 | .mk vk vn vs ks,hs=>by
  have hs':cA ks+1<=1099511627776:=by simp only[bF] at hs;omega
  have ih:∀a∈ks,aT prog [] 73 [cO a] (.int .i64 (bF a)):=λa hm=>QE a (by have:=Cq hm;omega)
  have hl:=zH ks;refine aD bE func73 rfl ?_;refine Rr ?_;refine bA.at bE (λk:Nat=>k<=ks.length)
   (λk=>⟨[(1,.ptr 0 0 0),(3,.int .i64 (1+cA (ks.take k):Nat)),(4,.int .i64 k)],[(0,.row 55 4 [cO (.mk vk vn vs ks)])],1,21⟩)
   (λk=>ks.length-k) 0 [(0,0)] sq
   (aE _ rfl ⟨aL 0 dO,trivial⟩ ⟨aF,aJ,aJ,trivial⟩) ?_
  intro k hk;refine Rr ?_;refine aI (λh=>?_) (λh=>?_)
  .have hlt:=Jp h;obtain⟨a,b,c,d,hm,hg,he,e1⟩:=cX hlt;have hsz:=rG hlt;have hle:=lC ks (k+1);rw[he] at hsz;refine Rr ?_;refine aB e1 ?_;refine Rr ?_;refine(ih _ hm).go ?_;refine Rr ?_;exact .mk (k+1) [(0,0)] om (aE _ rfl ⟨aL 0 dO,trivial⟩ ⟨aF,⟨_,rfl,.w64 om oq⟩,⟨_,rfl,.w64 om oq⟩,trivial⟩) om
  .have hk':k=ks.length:=by have:=Jd h;omega
   refine Rr ?_;refine aA nn ⟨?_,rfl,rfl⟩;rw[hk',aAD,bF]
 termination_by v=>SizeOf.sizeOf v
 decreasing_by simp;have:=aBE hm;omega
theorem Uq(c:Int):aT prog [] 246 [.int .u8 c] (.bool (zK c)):=by
 refine aD bE func246 rfl ?_;refine Rr ?_;repeat' (refine aI (λh=>?_) (λh=>?_)<;>((try rw[h]);refine Rr ?_))
 all_goals
  refine aA nn ⟨?_,rfl,rfl⟩;congr 1;rw[aAS];simp[zK] at *;try omega
theorem ST(s:List UInt8)(hs:s.length<=4294967296):aT prog [] 192 [.str s] (.bool (Go.Ax.f9 s)):=by
  refine aD bE func192 rfl ?_;refine Rr ?_;refine aI (λh=>?_) (λh=>?_)
  · rw[h]
    refine Rr ?_;refine aA nn ⟨?_,rfl,rfl⟩;rw[xH (by simp at h;omega)]
  have h1:1<=s.length:=by simp at h;omega
  rw[h];refine Rr ?_;refine aI (λh=>?_) (λh=>?_)
  · rw[h]
    refine Rr ?_;refine aA nn ⟨?_,rfl,rfl⟩;rw[nQ (by simp at h;omega)]
  have h2:s.length<=16:=by simp at h;omega
  rw[h];obtain⟨a,ha⟩:∃a,s[0]? = some a:=⟨s[0],sq⟩
  refine Rr ?_;refine aB ha ?_;refine Rr ?_;refine aI (λh=>?_) (λh=>?_)
  · rw[h]
    refine Rr ?_;refine aA nn ⟨?_,rfl,rfl⟩;rw[mC ha (by simp[upper] at *;omega)]
  have h3:65<=(a.toNat:Int):=su h
  rw[h];refine Rr ?_;refine aB ha ?_;refine Rr ?_;refine aI (λh=>?_) (λh=>?_)
  · refine Rr ?_
    refine aA nn ⟨?_,rfl,rfl⟩;rw[mC ha (by simp[upper] at *;omega)]
  have h4:(a.toNat:Int)<=90:=su h
  refine Rr ?_;refine bA.at bE (λi:Nat=>i<=s.length/\∀j c,j<i->s[j]? = some c->zK c.toNat=true)
    (λi=>⟨[(0,.str s),(3,.int .i64 i)],[],0,64⟩) (λi=>s.length-i) 0 [] ⟨sq,sq⟩
    (bX ⟨aJ,aJ,trivial⟩) ?_
  rintro i ⟨hi,hall⟩;refine Rr ?_;refine aI (λh=>?_) (λh=>?_)
  · have hlt:i<s.length:=su h
    obtain⟨c,hc⟩:∃c,s[i]? = some c:=⟨s[i],by simp[hlt]⟩
    have hc':s[(i:Int).toNat]? = some c:=by rw[aAc];exact hc
    refine Rr ?_;refine aB hc' ?_;refine Rr ?_;repeat' (refine aI (λh=>?_) (λh=>?_)<;>((try rw[h]);refine Rr ?_))
    all_goals first
      | (refine aA nn ⟨?_,rfl,rfl⟩
         rw[Au hc (by rw[aBz];simp[zK] at *;omega)])
      | (refine .mk (i+1) [] ⟨om,λj c2 hj hc2=>?_⟩ (bX ⟨aJ,⟨_,rfl,.w64 om oq⟩,trivial⟩) om
         rcases aAr j i with hj'|hj'
         · exact hall j c2 hj' hc2
         · have hji:j=i:=om
           rw[hji,hc] at hc2;cases hc2;simp[zK] at *;omega)
  · refine Rr ?_
    refine aA nn ⟨?_,rfl,rfl⟩;have hk:i=s.length:=by simp at h;omega
    rw[Ad ha h2 (by simp[upper];omega) λj c hc=>hall j c (by rw[hk];exact(aAg.1 hc).1) hc]
theorem QN(s:List UInt8)(hs:s.length<=4294967296):aT prog [] 227 [.str s] (.bool (Go.Ax.f9 s)):=by
 refine aD bE func227 rfl ?_;refine Rr ?_;refine aI (λh=>?_) (λh=>?_)
 .rw[h];refine Rr ?_;refine aA nn ⟨?_,rfl,rfl⟩;rw[xH (by simp at h;rw[h];simp)]
 have h1:1<=s.length:=by
  rcases aAz s.length with h'|h'
  .rw[aAB h'] at h;simp at h
  .exact h'
 rw[h];refine Rr ?_;refine aI (λh=>?_) (λh=>?_)
 .rw[h];refine Rr ?_;refine aA nn ⟨?_,rfl,rfl⟩;rw[nQ (by simp at h;omega)]
 have h2:s.length<=16:=by simp at h;omega
 rw[h];obtain⟨a,ha⟩:∃a,s[0]? = some a:=⟨s[0],sq⟩
 refine Rr ?_;refine aB ha ?_;refine Rr ?_;refine aI (λh=>?_) (λh=>?_)
 .rw[h];refine Rr ?_;refine aA nn ⟨?_,rfl,rfl⟩;rw[mC ha (by simp[upper] at *;omega)]
 have h3:65<=(a.toNat:Int):=su h
 rw[h];refine Rr ?_;refine aB ha ?_;refine Rr ?_;refine aI (λh=>?_) (λh=>?_)
 .refine Rr ?_;refine aA nn ⟨?_,rfl,rfl⟩;rw[mC ha (by simp[upper] at *;omega)]
 have h4:(a.toNat:Int)<=90:=su h
 have hua:upper a.toNat=true:=by simp[upper];omega
 refine Rr ?_;refine bA.at bE (λi:Nat=>1<=i/\i<=s.length/\∀j c,j<i->s[j]? = some c->zK c.toNat=true)
  (λi=>⟨[(0,.str s),(3,.int .i64 i)],[],0,32⟩) (λi=>s.length-i) 1 [] ⟨sq,h1,λj c hj hc=>by rw[show j=0 by omega,ha] at hc;cases hc;exact Kz hua⟩
  (bX ⟨aJ,aJ,trivial⟩) ?_
 rintro i ⟨h0,hi,hall⟩;refine Rr ?_;refine aI (λh=>?_) (λh=>?_)
 .have hlt:i<s.length:=su h
  obtain⟨c,hc⟩:∃c,s[i]? = some c:=⟨s[i],by simp[hlt]⟩
  have hc':s[(i:Int).toNat]? = some c:=by rw[aAc];exact hc
  refine Rr ?_;refine aB hc' ?_;refine Rr ?_;refine(Uq c.toNat).go ?_;refine Rr ?_;cases hb:zK c.toNat with
  | false=>
   refine Rr ?_;refine aA nn ⟨?_,rfl,rfl⟩;rw[Au hc hb]
  | true=>
   refine Rr ?_;refine .mk (i+1) [] ⟨om,om,λj c2 hj hc2=>?_⟩ (bX ⟨aJ,⟨_,rfl,.w64 om oq⟩,trivial⟩) om;rcases aAr j i with hj'|hj'
   .exact hall j c2 hj' hc2
   .have hji:j=i:=om;rw[hji,hc] at hc2;cases hc2;exact hb
 .refine Rr ?_;refine aA nn ⟨?_,rfl,rfl⟩;have hk:i=s.length:=by simp at h;omega
  rw[Ad ha h2 hua λj c hc=>hall j c (by rw[hk];exact(aAg.1 hc).1) hc]
theorem Uc(vk vn:Int)(vs:List UInt8)(ks:List aQ)(hs:vs.length<=4294967296):aT prog [] 181 [cO (.mk vk vn vs ks)] (.bool (dA vk vn vs ks.length)):=by
 refine aD bE func181 rfl ?_;refine Rr ?_;repeat' (first|(refine aI (λh=>?_) (λh=>?_)<;>((try rw[h]);refine Rr ?_))|(refine(QN vs hs).go ?_;refine Rr ?_))
 all_goals
  refine aA nn ⟨?_,rfl,rfl⟩;congr 1;rw[aAS];simp_all[dA,aC,aBh,List.isEmpty_iff]
theorem Yc(vk vn:Int)(vs:List UInt8)(ks:List aQ):aT prog [] 182 [cO (.mk vk vn vs ks)] (.bool (yC vk ks.length)):=by
 refine aD bE func182 rfl ?_;refine Rr ?_;repeat' (refine aI (λh=>?_) (λh=>?_)<;>((try rw[h]);refine Rr ?_))
 all_goals
  refine aA nn ⟨?_,rfl,rfl⟩;congr 1;rw[aAS];simp[yC,aC] at *;try omega
theorem Ny:∀v:aQ,iO v->aT prog [] 130 [cO v] (.bool (bT v))
  | .mk vk vn vs ks,hv=>by
    simp only[iO] at hv;obtain⟨hv1,hv2,hv3,hv4,hv5⟩:=hv;have ih:∀a∈ks,aT prog [] 130 [cO a] (.bool (bT a)):=λa hm=>Ny a (jO hv5 a hm)
    clear hv5;refine aD bE func130 rfl ?_;refine Rr ?_;refine(ST vs hv3).go ?_;obtain⟨cb,hcb⟩:∃cb,cb=Go.Ax.f9 vs:=⟨_,rfl⟩
    rw[<-hcb];rcases(show vk=0\/vk=1\/vk=2\/vk=3\/(vk<0\/3<vk) by omega) with rfl|rfl|rfl|rfl|hk
    · refine Rr ?_
      repeat' (refine aI (λh=>?_) (λh=>?_)<;>((try rw[h]);refine Rr ?_))
      all_goals first
        | (refine aA nn ⟨?_,rfl,rfl⟩
           clear ih;have hf1:dA 0 vn vs ks.length=false:=by
             rw[aBz];simp_all[dA,aC,aA5];try omega
           rw[bT,hf1];rfl)
        | (have hf1:dA 0 vn vs ks.length=true:=by
             clear ih;simp_all[dA,aC,aA5];try omega
           refine bA.at bE (λk:Nat=>k<=ks.length/\c9 (ks.take k)=true)
             (λk=>⟨[(1,.ptr 0 0 0),(4,.int .i64 k)],[(0,.row 55 4 [cO (.mk 0 vn vs ks)])],1,95⟩) (λk=>ks.length-k) 0 [(0,0)] ⟨sq,rfl⟩
             (aE _ rfl ⟨aL 0 dO,trivial⟩ ⟨aF,aJ,trivial⟩) ?_
           rintro k ⟨hk,hall⟩;refine Rr ?_;refine aI (λh=>?_) (λh=>?_)
           · have hlt:=Jp h
             obtain⟨a,b,c,d,hm,hg,he,e1⟩:=cX hlt;have hih:=ih _ hm;obtain⟨fb,hfb⟩:∃fb,fb=bT (.mk a b c d):=⟨_,rfl⟩
             rw[<-hfb] at hih;refine Rr ?_;refine aB e1 ?_;refine Rr ?_;refine hih.go ?_;cases fb with
             | false=>
               refine Rr ?_;refine aA nn ⟨?_,rfl,rfl⟩;rw[bT,pP hm hfb.symm,aBR]
             | true=>
               refine Rr ?_;refine .mk (k+1) [(0,0)] ⟨om, ?_⟩ (aE _ rfl ⟨aL 0 dO,trivial⟩ ⟨aF,⟨_,rfl,.w64 om oq⟩,trivial⟩) om;rw[qF hlt,hall,he,<-hfb];rfl
           · have hk':k=ks.length:=by have:=Jd h;omega
             refine Rr ?_;refine aA nn ⟨?_,rfl,rfl⟩;rw[hk',aAD] at hall;rw[bT,hf1,hall];rfl)
    · refine Rr ?_
      repeat' (refine aI (λh=>?_) (λh=>?_)<;>((try rw[h]);refine Rr ?_))
      all_goals first
        | (refine aA nn ⟨?_,rfl,rfl⟩
           clear ih;have hf1:dA 1 vn vs ks.length=false:=by
             rw[aBz];simp_all[dA,aC,aA5];try omega
           rw[bT,hf1];rfl)
        | (have hf1:dA 1 vn vs ks.length=true:=by
             clear ih;simp_all[dA,aC,aA5];try omega
           refine bA.at bE (λk:Nat=>k<=ks.length/\c9 (ks.take k)=true)
             (λk=>⟨[(1,.ptr 0 0 0),(4,.int .i64 k)],[(0,.row 55 4 [cO (.mk 1 vn vs ks)])],1,95⟩) (λk=>ks.length-k) 0 [(0,0)] ⟨sq,rfl⟩
             (aE _ rfl ⟨aL 0 dO,trivial⟩ ⟨aF,aJ,trivial⟩) ?_
           rintro k ⟨hk,hall⟩;refine Rr ?_;refine aI (λh=>?_) (λh=>?_)
           · have hlt:=Jp h
             obtain⟨a,b,c,d,hm,hg,he,e1⟩:=cX hlt;have hih:=ih _ hm;obtain⟨fb,hfb⟩:∃fb,fb=bT (.mk a b c d):=⟨_,rfl⟩
             rw[<-hfb] at hih;refine Rr ?_;refine aB e1 ?_;refine Rr ?_;refine hih.go ?_;cases fb with
             | false=>
               refine Rr ?_;refine aA nn ⟨?_,rfl,rfl⟩;rw[bT,pP hm hfb.symm,aBR]
             | true=>
               refine Rr ?_;refine .mk (k+1) [(0,0)] ⟨om, ?_⟩ (aE _ rfl ⟨aL 0 dO,trivial⟩ ⟨aF,⟨_,rfl,.w64 om oq⟩,trivial⟩) om;rw[qF hlt,hall,he,<-hfb];rfl
           · have hk':k=ks.length:=by have:=Jd h;omega
             refine Rr ?_;refine aA nn ⟨?_,rfl,rfl⟩;rw[hk',aAD] at hall;rw[bT,hf1,hall];rfl)
    · refine Rr ?_
      repeat' (refine aI (λh=>?_) (λh=>?_)<;>((try rw[h]);refine Rr ?_))
      all_goals first
        | (refine aA nn ⟨?_,rfl,rfl⟩
           clear ih;have hf1:dA 2 vn vs ks.length=false:=by
             rw[aBz];simp_all[dA];try omega
           rw[bT,hf1];rfl)
        | (have hf1:dA 2 vn vs ks.length=true:=by
             clear ih;simp_all[dA];try omega
           refine bA.at bE (λk:Nat=>k<=ks.length/\c9 (ks.take k)=true)
             (λk=>⟨[(1,.ptr 0 0 0),(4,.int .i64 k)],[(0,.row 55 4 [cO (.mk 2 vn vs ks)])],1,95⟩) (λk=>ks.length-k) 0 [(0,0)] ⟨sq,rfl⟩
             (aE _ rfl ⟨aL 0 dO,trivial⟩ ⟨aF,aJ,trivial⟩) ?_
           rintro k ⟨hk,hall⟩;refine Rr ?_;refine aI (λh=>?_) (λh=>?_)
           · have hlt:=Jp h
             obtain⟨a,b,c,d,hm,hg,he,e1⟩:=cX hlt;have hih:=ih _ hm;obtain⟨fb,hfb⟩:∃fb,fb=bT (.mk a b c d):=⟨_,rfl⟩
             rw[<-hfb] at hih;refine Rr ?_;refine aB e1 ?_;refine Rr ?_;refine hih.go ?_;cases fb with
             | false=>
               refine Rr ?_;refine aA nn ⟨?_,rfl,rfl⟩;rw[bT,pP hm hfb.symm,aBR]
             | true=>
               refine Rr ?_;refine .mk (k+1) [(0,0)] ⟨om, ?_⟩ (aE _ rfl ⟨aL 0 dO,trivial⟩ ⟨aF,⟨_,rfl,.w64 om oq⟩,trivial⟩) om;rw[qF hlt,hall,he,<-hfb];rfl
           · have hk':k=ks.length:=by have:=Jd h;omega
             refine Rr ?_;refine aA nn ⟨?_,rfl,rfl⟩;rw[hk',aAD] at hall;rw[bT,hf1,hall];rfl)
    · refine Rr ?_
      repeat' (refine aI (λh=>?_) (λh=>?_)<;>((try rw[h]);refine Rr ?_))
      all_goals first
        | (refine aA nn ⟨?_,rfl,rfl⟩
           clear ih;have hf1:dA 3 vn vs ks.length=false:=by
             rw[aBz];simp_all[dA];try omega
           rw[bT,hf1];rfl)
        | (have hf1:dA 3 vn vs ks.length=true:=by
             clear ih;simp_all[dA];try omega
           refine bA.at bE (λk:Nat=>k<=ks.length/\c9 (ks.take k)=true)
             (λk=>⟨[(1,.ptr 0 0 0),(4,.int .i64 k)],[(0,.row 55 4 [cO (.mk 3 vn vs ks)])],1,95⟩) (λk=>ks.length-k) 0 [(0,0)] ⟨sq,rfl⟩
             (aE _ rfl ⟨aL 0 dO,trivial⟩ ⟨aF,aJ,trivial⟩) ?_
           rintro k ⟨hk,hall⟩;refine Rr ?_;refine aI (λh=>?_) (λh=>?_)
           · have hlt:=Jp h
             obtain⟨a,b,c,d,hm,hg,he,e1⟩:=cX hlt;have hih:=ih _ hm;obtain⟨fb,hfb⟩:∃fb,fb=bT (.mk a b c d):=⟨_,rfl⟩
             rw[<-hfb] at hih;refine Rr ?_;refine aB e1 ?_;refine Rr ?_;refine hih.go ?_;cases fb with
             | false=>
               refine Rr ?_;refine aA nn ⟨?_,rfl,rfl⟩;rw[bT,pP hm hfb.symm,aBR]
             | true=>
               refine Rr ?_;refine .mk (k+1) [(0,0)] ⟨om, ?_⟩ (aE _ rfl ⟨aL 0 dO,trivial⟩ ⟨aF,⟨_,rfl,.w64 om oq⟩,trivial⟩) om;rw[qF hlt,hall,he,<-hfb];rfl
           · have hk':k=ks.length:=by have:=Jd h;omega
             refine Rr ?_;refine aA nn ⟨?_,rfl,rfl⟩;rw[hk',aAD] at hall;rw[bT,hf1,hall];rfl)
    · have e0:(vk == 0)=false:=by simp;omega
      have e1:(vk == 1)=false:=by simp;omega
      have e2:(vk == 2)=false:=by simp;omega
      have e3:(vk == 3)=false:=by simp;omega
      have hf1:dA vk vn vs ks.length=false:=by
        unfold dA;rw[aAe om,aAe om,aAe om,aAe om]
      have hfin:AV.bool false=AV.bool (bT (.mk vk vn vs ks)):=by rw[bT,hf1];rfl
      refine Rr ?_;repeat((first|rw[e0]|rw[e1]|rw[e2]|rw[e3]);refine Rr ?_)
      refine aI (λh=>?_) (λh=>?_)
      · rw[h]
        refine Rr ?_;exact aA nn ⟨hfin,rfl,rfl⟩
      · rw[h]
        refine Rr ?_;refine aI (λh'=>?_) (λh'=>?_)
        · refine Rr ?_
          exact aA nn ⟨hfin,rfl,rfl⟩
        · exfalso
          simp at h h';omega
  termination_by v=>SizeOf.sizeOf v
  decreasing_by simp;have:=aBE hm;omega
theorem Vo:∀v:aQ,iO v->aT prog [] 131 [cO v] (.bool (lF v))
  | .mk vk vn vs ks,hv=>by
    simp only[iO] at hv;obtain⟨hv1,hv2,hv3,hv4,hv5⟩:=hv;have ih:∀a∈ks,aT prog [] 131 [cO a] (.bool (lF a)):=λa hm=>Vo a (jO hv5 a hm)
    clear hv5;refine aD bE func131 rfl ?_;refine Rr ?_;repeat' (refine aI (λh=>?_) (λh=>?_)<;>((try rw[h]);refine Rr ?_))
    all_goals first
      | (refine aA nn ⟨?_,rfl,rfl⟩
         clear ih;have hf1:Bl vk ks.length=true:=by
           simp[Bl,aC] at *;omega
         rw[lF,hf1];rfl)
      | (have hf1:Bl vk ks.length=false:=by
           clear ih;rw[aBz];simp[Bl,aC] at *;omega
         refine bA.at bE (λk:Nat=>k<=ks.length/\rO (ks.take k)=false)
           (λk=>⟨[(1,.ptr 0 0 0),(3,.int .i64 k)],[(0,.row 55 4 [cO (.mk vk vn vs ks)])],1,39⟩) (λk=>ks.length-k) 0 [(0,0)] ⟨sq,rfl⟩
           (aE _ rfl ⟨aL 0 dO,trivial⟩ ⟨aF,aJ,trivial⟩) ?_
         rintro k ⟨hk,hall⟩;refine Rr ?_;refine aI (λh=>?_) (λh=>?_)
         · have hlt:=Jp h
           obtain⟨a,b,c,d,hm,hg,he,e1⟩:=cX hlt;have hih:=ih _ hm;obtain⟨fb,hfb⟩:∃fb,fb=lF (.mk a b c d):=⟨_,rfl⟩
           rw[<-hfb] at hih;refine Rr ?_;refine aB e1 ?_;refine Rr ?_;refine hih.go ?_;cases fb with
           | true=>
             refine Rr ?_;refine aA nn ⟨?_,rfl,rfl⟩;rw[lF,Gu hm hfb.symm,Bool.or_true]
           | false=>
             refine Rr ?_;refine .mk (k+1) [(0,0)] ⟨om, ?_⟩ (aE _ rfl ⟨aL 0 dO,trivial⟩ ⟨aF,⟨_,rfl,.w64 om oq⟩,trivial⟩) om;rw[Lu hlt,hall,he,<-hfb];rfl
         · have hk':k=ks.length:=by have:=Jd h;omega
           refine Rr ?_;refine aA nn ⟨?_,rfl,rfl⟩;rw[hk',aAD] at hall;rw[lF,hf1,hall];rfl)
  termination_by v=>SizeOf.sizeOf v
  decreasing_by simp;have:=aBE hm;omega
theorem XE:∀v:aQ,iO v->bF v<=1099511627776->aT prog [] 71 [cO v] (.int .i64 (bG v))
 | .mk vk vn vs ks,hv,hs=>by
  have h1:=Ny _ hv;have h2:=Vo _ hv;have h3:=QE _ hs;have hval:bG (.mk vk vn vs ks)=if bT (.mk vk vn vs ks)=false then 1 else if lF (.mk vk vn vs ks)=true\/1024<bF (.mk vk vn vs ks) then 4 else 0:=rfl
  generalize bT (.mk vk vn vs ks)=fb at h1 hval;generalize lF (.mk vk vn vs ks)=wb at h2 hval;generalize bF (.mk vk vn vs ks)=sz at h3 hval;generalize bG (.mk vk vn vs ks)=res at hval;refine aD bE func71 rfl ?_;refine Rr ?_;refine h1.go ?_;cases fb with
  | false=>
   refine Rr ?_;refine aA nn ⟨?_,rfl,rfl⟩;rw[hval];rfl
  | true=>
   refine Rr ?_;refine h2.go ?_;cases wb with
   | true=>
    refine Rr ?_;refine aA nn ⟨?_,rfl,rfl⟩;rw[hval];simp
   | false=>
    refine Rr ?_;refine h3.go ?_;refine Rr ?_;refine aI (λh=>?_) (λh=>?_)
    .refine Rr ?_;refine aA nn ⟨?_,rfl,rfl⟩;rw[hval,aAe sq,aAh (by simp at h;omega)]
    .refine Rr ?_;refine aA nn ⟨?_,rfl,rfl⟩;rw[hval,aAe sq,aAe (by simp at h;simp;omega)]
end Go.Proofs.YtidjhgajglebnaaGreatDoor
namespace Go.Proofs.YtidjhgajglebnaaGreatDoor
open Go Go.Ax Go.Proofs Tryz
variable{i k j:Nat}{F:FuncId}
def cI(n:Nat):AB:=.row 3 1 [.int .i64 n]
def cB(b:Bool):AB:=.row 4 1 [.bool b]
def cF(f:AV):AB:=.row 277 1 [f]
section
variable {mem:aP} {J:List (Nat × Nat)}
theorem Kk(h:lk J i=some i):sH mem J [.fn (.func F) [] [.ptr i 0 0]] [.fn (.func F) [] [.ptr i 0 0]]:=
 .cons (.one rfl rfl (.fn _ _ _ _ _ rfl rfl sq (jB.cons (.ptr i i 0 0 h) .nil).2)) .nil
theorem v7(h:lk J i=some i)(h':lk J j=some j):sH mem J [.fn (.func F) [] [.ptr i 0 0,.ptr j 0 0]] [.fn (.func F) [] [.ptr i 0 0,.ptr j 0 0]]:=
 .cons (.one rfl rfl (.fn _ _ _ _ _ rfl rfl sq (jB.cons (.ptr i i 0 0 h) (.cons (.ptr j j 0 0 h') .nil)).2)) .nil
theorem F7(h:lk J i=some i)(h':lk J j=some j)(h'':lk J k=some k):sH mem J [.fn (.func F) [] [.ptr i 0 0,.ptr j 0 0,.ptr k 0 0]] [.fn (.func F) [] [.ptr i 0 0,.ptr j 0 0,.ptr k 0 0]]:=
 .cons (.one rfl rfl (.fn _ _ _ _ _ rfl rfl sq (jB.cons (.ptr i i 0 0 h) (.cons (.ptr j j 0 0 h') (.cons (.ptr k k 0 0 h'') .nil))).2)) .nil
end
def XK(n:Nat):aP:=[(0,cI n),(1,cF (.fn (.func 183) [] [.ptr 0 0 0])),(2,cF (.fn (.func 226) [] [.ptr 1 0 0,.ptr 2 0 0]))]
theorem NP(g:Nat->Nat->Nat)(hg:∀n d,g n d<=max (n+1) d)
  (hsee:∀(v:aQ) (d n:Nat),d<=1099511627776->n<=4398046511104->aH prog [] 183 [cO v,.int .i64 d,.ptr 0 0 0] [(0,cI n)] 1 λr m _=>r = .bool true/\m=[(0,cI (g n d))]) :
  ∀(v:aQ) (d n:Nat),d+jI v<=1099511627776->max n (d+jI v)+bF v<=4398046511104 ->
   aH prog [] 226 [cO v,.int .i64 d,.ptr 1 0 0,.ptr 2 0 0] (XK n) 3 λr m _=>r = .bool true/\m=XK (BH g v d n)
 | .mk vk vn vs ks,d,n,hd,hb=>by
  have ih:∀a∈ks,∀(d n:Nat),d+jI a<=1099511627776->max n (d+jI a)+bF a<=4398046511104->aH prog [] 226 [cO a,.int .i64 d,.ptr 1 0 0,.ptr 2 0 0] (XK n) 3 λr m _=>r = .bool true/\m=XK (BH g a d n):=
   λa hm d n h1 h2=>NP g hg hsee a d n h1 h2
  simp only[jI,bF] at hd hb;have hlen:=zH ks;have hgn:=hg n d;refine aD bE func226 rfl ?_;refine Rr ?_;refine aH.useI bE [0] (hsee (.mk vk vn vs ks) d n om om) (by rfl) (.s (.s (.cons (.ptr 0 0 0 0 rfl) .nil))) ⟨aL 0 dO,trivial⟩ rfl ?_;rintro r m n' ⟨rfl,rfl⟩;refine⟨nn,⟨aL 0 dO,trivial⟩,rfl, ?_⟩;refine Rr ?_;refine bA.at bE (λk:Nat=>k<=ks.length)
   (λk=>⟨[(1,.int .i64 d),(3,.ptr 2 0 0),(15,.il 4 (aU ks)),(16,.int .i64 (aU ks).length),(17,.int .i64 k)],XK (xE g (ks.take k) (d+1) (g n d)),3,28⟩)
   (λk=>ks.length-k) 0 [(0,0),(1,1),(2,2)] sq
   (aE _ rfl ⟨aL 0 dO,⟨1,_,rfl,rfl,Kk rfl⟩,⟨2,_,rfl,rfl,v7 rfl rfl⟩,trivial⟩ ⟨aJ,aF,aJ,aJ,aJ,trivial⟩) ?_
  intro k hk;have hrl:=Hn hg (ks.take k) (d+1) (g n d);refine Rr ?_;refine aI (λh=>?_) (λh=>?_)
  .have hlt:=Jp h;obtain⟨a,b,c,e,hm,hg',he,e1⟩:=cX hlt;have hst:=rG hlt;have hdt:=KE hlt;rw[he] at hst hdt;have hst':=lC ks (k+1);have hdm:=Af hm;have hdk:gK (ks.take k)<=gK ks:=Fo ks k;have hrt:=Oy g hlt (d+1) (g n d);rw[he] at hrt;refine Rr ?_;refine aB e1 ?_;refine Rr ?_;rw[w64 (x:=(d:Int)+1) (y:=((d+1:Nat):Int)) om oq];refine aH.useI bE [0,1,2] (ih _ hm (d+1) (xE g (ks.take k) (d+1) (g n d)) om om) (by rfl) (.s (.s (.cons (.ptr 1 1 0 0 rfl) (.cons (.ptr 2 2 0 0 rfl) .nil))))
    ⟨aL 0 dO,⟨1,_,rfl,rfl,Kk rfl⟩,⟨2,_,rfl,rfl,v7 rfl rfl⟩,trivial⟩ rfl ?_
   rintro r m n' ⟨rfl,rfl⟩;refine⟨nn,⟨aL 0 dO,⟨1,_,rfl,rfl,Kk rfl⟩,⟨2,_,rfl,rfl,v7 rfl rfl⟩,trivial⟩,rfl, ?_⟩;rw[<-hrt];refine Rr ?_;exact .mk (k+1) [(0,0),(1,1),(2,2)] om
    (aE _ rfl ⟨aL 0 dO,⟨1,_,rfl,rfl,Kk rfl⟩,⟨2,_,rfl,rfl,v7 rfl rfl⟩,trivial⟩ ⟨aJ,aF,aJ,aJ,⟨_,rfl,.w64 om oq⟩,trivial⟩) om
  .have hk':k=ks.length:=by have:=Jd h;omega
   refine Rr ?_;refine aW (n':=3) (m':=XK (xE g (ks.take k) (d+1) (g n d))) [(0,0),(1,1),(2,2)] rfl ⟨aL 0 dO,⟨1,_,rfl,rfl,Kk rfl⟩,⟨2,_,rfl,rfl,v7 rfl rfl⟩,trivial⟩ (.same _ nn) ⟨rfl, ?_⟩;rw[hk',aAD,BH]
 termination_by v=>SizeOf.sizeOf v
 decreasing_by simp;have:=aBE hm;omega
end Go.Proofs.YtidjhgajglebnaaGreatDoor
namespace Go.Proofs.YtidjhgajglebnaaGreatDoor
open Go Go.Ax Go.Proofs Tryz
variable{i k j:Nat}{F:FuncId}
section
variable {mem:aP} {J:List (Nat × Nat)}
theorem XI{i':Nat}(h:lk J i=some i'):sH mem J [.fn (.func F) [] [.ptr i 0 0]] [.fn (.func F) [] [.ptr i' 0 0]]:=
 .cons (.one rfl rfl (.fn _ _ _ _ _ rfl rfl sq (jB.cons (.ptr i i' 0 0 h) .nil).2)) .nil
theorem P2{i' j':Nat}(h:lk J i=some i')(h':lk J j=some j'):sH mem J [.fn (.func F) [] [.ptr i 0 0,.ptr j 0 0]] [.fn (.func F) [] [.ptr i' 0 0,.ptr j' 0 0]]:=
 .cons (.one rfl rfl (.fn _ _ _ _ _ rfl rfl sq (jB.cons (.ptr i i' 0 0 h) (.cons (.ptr j j' 0 0 h') .nil)).2)) .nil
theorem WE{i' j' k':Nat}(h:lk J i=some i')(h':lk J j=some j')(h'':lk J k=some k'):sH mem J [.fn (.func F) [] [.ptr i 0 0,.ptr j 0 0,.ptr k 0 0]] [.fn (.func F) [] [.ptr i' 0 0,.ptr j' 0 0,.ptr k' 0 0]]:=
 .cons (.one rfl rfl (.fn _ _ _ _ _ rfl rfl sq (jB.cons (.ptr i i' 0 0 h) (.cons (.ptr j j' 0 0 h') (.cons (.ptr k k' 0 0 h'') .nil))).2)) .nil
theorem ZP{i':Nat}(h:lk J i=some i'):Cv mem J (.fn (.func F) [] [.ptr i 0 0]) (.fn (.func F) [] [.ptr i' 0 0]):=
 .fn _ _ _ _ _ rfl rfl sq (jB.cons (.ptr i i' 0 0 h) .nil).2
theorem Y7{i' j' k':Nat}(h:lk J i=some i')(h':lk J j=some j')(h'':lk J k=some k'):Cv mem J (.fn (.func F) [] [.ptr i 0 0,.ptr j 0 0,.ptr k 0 0]) (.fn (.func F) [] [.ptr i' 0 0,.ptr j' 0 0,.ptr k' 0 0]):=
 .fn _ _ _ _ _ rfl rfl sq (jB.cons (.ptr i i' 0 0 h) (.cons (.ptr j j' 0 0 h') (.cons (.ptr k k' 0 0 h'') .nil))).2
end
theorem Zg:∀(v:aQ) (d n:Nat),d<=1099511627776->n<=4398046511104->aH prog [] 183 [cO v,.int .i64 d,.ptr 0 0 0] [(0,cI n)] 1 λr m _=>r = .bool true/\m=[(0,cI (n+1))]
 | .mk vk vn vs ks,d,n,hd,hn=>by
  refine aD bE func183 rfl ?_;refine Rr ?_;exact aW (n':=1) (m':=[(0,cI (n+1))]) [(0,0)] rfl ⟨⟨0,_,rfl,rfl,.cons (.one rfl rfl (.w64 om oq)) .nil⟩,trivial⟩ (.same _ nn) ⟨rfl,rfl⟩
theorem Td:∀(v:aQ) (n:Nat),1+jI v<=1099511627776->max n (1+jI v)+bF v<=4398046511104 ->
   aH prog [] 179 [cO v,.fn (.func 183) [] [.ptr 0 0 0]] [(0,cI n)] 1 λr m _=>r = .tup []/\m=[(0,cI (BH (λn _=>n+1) v 1 n))]
 | .mk vk vn vs ks,n,hd,hb=>by
  have hw:=NP (λn _=>n+1) (λn d=>om) Zg (.mk vk vn vs ks) 1 n hd hb;generalize BH (λn _=>n+1) (.mk vk vn vs ks) 1 n=res at hw;refine aD bE func179 rfl ?_;refine Rr ?_;refine aH.useR bE [(0,0),(2,1),(3,2)] hw (by rfl) (.s (.cons (.int rfl) (.cons (.ptr 2 1 0 0 rfl) (.cons (.ptr 3 2 0 0 rfl) .nil))))
   ⟨aL 0 dO,⟨2,_,rfl,rfl,XI rfl⟩,⟨3,_,rfl,rfl,P2 rfl rfl⟩,trivial⟩ rfl ?_
  rintro r m n' ⟨rfl,rfl⟩;refine⟨[(0,cI res)],nn,⟨aL 0 dO,trivial⟩,rfl, ?_⟩;refine Rr ?_;exact aW (n':=1) (m':=[(0,cI res)]) [(0,0)] rfl ⟨aL 0 dO,trivial⟩ (.same _ nn) ⟨rfl,rfl⟩
theorem Xa:∀v:aQ,bF v<=1048576->aT prog [] 109 [cO v] (.int .i64 (bF v))
 | .mk vk vn vs ks,hs=>by
  have hd:=sY (.mk vk vn vs ks);have hw:=Td (.mk vk vn vs ks) 0 om om;rw[show BH (λn _=>n+1) (.mk vk vn vs ks) 1 0=bF (.mk vk vn vs ks) by rw[Kl];omega] at hw;generalize bF (.mk vk vn vs ks)=res at hw;refine aD bE func109 rfl ?_;refine Rr ?_;refine aH.useR bE [(1,0)] hw (by rfl) (.s (.cons (ZP rfl) .nil)) ⟨aL 1 dO,trivial⟩ rfl ?_;rintro r m n' ⟨rfl,rfl⟩;refine⟨[(1,cI res)],nn,⟨aL 0 dO,trivial⟩,rfl, ?_⟩;refine Rr ?_;exact aA nn ⟨rfl,rfl,rfl⟩
abbrev VS:=Nat × Bool × Bool
def vC(x:VS):aP:=[(0,cI x.1),(1,cB x.2.1),(2,cB x.2.2)]
def wV(x:VS):aP:=[(0,cI x.1),(1,cB x.2.1),(2,cB x.2.2),(3,cF (.fn (.func 180) [] [.ptr 0 0 0,.ptr 1 0 0,.ptr 2 0 0])),(4,cF (.fn (.func 226) [] [.ptr 3 0 0,.ptr 4 0 0]))]
theorem ZG(vk vn:Int)(vs:List UInt8)(ks:List aQ)(hs:vs.length<=4294967296)(d:Nat)(x:VS)(hx:x.1<=4398046511104) :
  aH prog [] 180 [cO (.mk vk vn vs ks),.int .i64 d,.ptr 0 0 0,.ptr 1 0 0,.ptr 2 0 0] (vC x) 3 λr m _=>r = .bool (dV x (.mk vk vn vs ks) d).1/\m=vC (dV x (.mk vk vn vs ks) d).2:=by
 obtain⟨n,g,s⟩:=x;have h1:=Uc vk vn vs ks hs;have h2:=Yc vk vn vs ks;have hst:dV (n,g,s) (.mk vk vn vs ks) d=(g && dA vk vn vs ks.length,(n+1,g && dA vk vn vs ks.length,s && yC vk ks.length)):=rfl;generalize dA vk vn vs ks.length=fb at h1 hst;generalize yC vk ks.length=tb at h2 hst;rw[hst];simp only at hx;refine aD bE func180 rfl ?_;cases g<;>cases s
 all_goals
  refine Rr ?_;try(refine h1.go ?_;refine Rr ?_)
  try(refine h2.go ?_;refine Rr ?_)
  exact aW (n':=3) (m':=vC (n+1,_,_)) [(0,0),(1,1),(2,2)] rfl ⟨⟨0,_,rfl,rfl,.cons (.one rfl rfl (.w64 om oq)) .nil⟩,aL 1 dO,aL 2 dO,trivial⟩ (.same _ nn) ⟨rfl,rfl⟩
theorem Ry:∀(v:aQ) (d:Nat) (x:VS),iO v->d+jI v<=1099511627776->x.1+bF v<=4398046511104 ->
   aH prog [] 226 [cO v,.int .i64 d,.ptr 3 0 0,.ptr 4 0 0] (wV x) 5 λr m _=>r = .bool (qC dV v d x).1/\m=wV (qC dV v d x).2
 | .mk vk vn vs ks,d,x,hok,hd,hb=>by
  simp only[iO] at hok;obtain⟨hv1,hv2,hv3,hv4,hv5⟩:=hok;have ih:∀a∈ks,∀(d:Nat) (x:VS),d+jI a<=1099511627776->x.1+bF a<=4398046511104->aH prog [] 226 [cO a,.int .i64 d,.ptr 3 0 0,.ptr 4 0 0] (wV x) 5 λr m _=>r = .bool (qC dV a d x).1/\m=wV (qC dV a d x).2:=
   λa hm d x h1 h2=>Ry a d x (jO hv5 a hm) h1 h2
  simp only[jI,bF] at hd hb;have hlen:=zH ks;have hsee:=ZG vk vn vs ks hv3 d x om;have hy1:(dV x (.mk vk vn vs ks) d).2.1=x.1+1:=rfl;generalize hst0:dV x (.mk vk vn vs ks) d=st at hsee hy1;obtain⟨b,y⟩:=st;simp only at hy1;refine aD bE func226 rfl ?_;refine Rr ?_;refine aH.useI bE [0,1,2] hsee (by rfl) (.s (.s (.cons (.ptr 0 0 0 0 rfl) (.cons (.ptr 1 1 0 0 rfl) (.cons (.ptr 2 2 0 0 rfl) .nil))))) ⟨aL 0 dO,aL 1 dO,aL 2 dO,trivial⟩ rfl ?_;rintro r m n' ⟨rfl,rfl⟩;refine⟨nn,⟨aL 0 dO,aL 1 dO,aL 2 dO,trivial⟩,rfl, ?_⟩;cases b with
  | false=>
   refine Rr ?_;refine aW (n':=5) (m':=wV y) [(0,0),(1,1),(2,2),(3,3),(4,4)] rfl ⟨aL 0 dO,aL 1 dO,aL 2 dO,⟨3,_,rfl,rfl,F7 rfl rfl rfl⟩,⟨4,_,rfl,rfl,v7 rfl rfl⟩,trivial⟩ (.same _ nn) ?_;have hvis:qC dV (.mk vk vn vs ks) d x=(false,y):=by rw[qC,hst0]
   rw[hvis];exact⟨rfl,rfl⟩
  | true=>
   have hvis:qC dV (.mk vk vn vs ks) d x=rY dV ks (d+1) y:=by rw[qC,hst0]
   refine Rr ?_;refine bA.at bE (λa:Nat × VS=>a.1<=ks.length/\rY dV (ks.take a.1) (d+1) y=(true,a.2))
    (λa=>⟨[(1,.int .i64 d),(3,.ptr 4 0 0),(15,.il 4 (aU ks)),(16,.int .i64 (aU ks).length),(17,.int .i64 a.1)],wV a.2,5,28⟩)
    (λa=>ks.length-a.1) (0,y) [(0,0),(1,1),(2,2),(3,3),(4,4)] ⟨sq,rfl⟩
    (aE _ rfl ⟨aL 0 dO,aL 1 dO,aL 2 dO,⟨3,_,rfl,rfl,F7 rfl rfl rfl⟩,⟨4,_,rfl,rfl,v7 rfl rfl⟩,trivial⟩ ⟨aJ,aF,aJ,aJ,aJ,trivial⟩) ?_
   rintro⟨k,z⟩ ⟨hk,hz⟩;simp only at hk hz;have hcnt:=EM (ks.take k) (d+1) y;rw[hz] at hcnt;simp only at hcnt;refine Rr ?_;refine aI (λh=>?_) (λh=>?_)
   .have hlt:k<ks.length:=Jp h;obtain⟨a,b,c,e,hm,hg',he,e1⟩:=cX hlt;have hst:=rG hlt;rw[he] at hst;have hst':=lC ks (k+1);have hdm:=Af hm;have hnext:=PQ dV hlt (d+1) y z hz;rw[he] at hnext;have hb2:z.1+bF (.mk a b c e)<=4398046511104:=om;have hih:=ih _ hm (d+1) z om hb2;generalize qC dV (.mk a b c e) (d+1) z=st2 at hih hnext;obtain⟨b2,z2⟩:=st2;refine Rr ?_;refine aB e1 ?_;refine Rr ?_;rw[w64 (x:=(d:Int)+1) (y:=((d+1:Nat):Int)) om oq];refine aH.useI bE [0,1,2,3,4] hih (by rfl) (.s (.s (.cons (.ptr 3 3 0 0 rfl) (.cons (.ptr 4 4 0 0 rfl) .nil))))
     ⟨aL 0 dO,aL 1 dO,aL 2 dO,⟨3,_,rfl,rfl,F7 rfl rfl rfl⟩,⟨4,_,rfl,rfl,v7 rfl rfl⟩,trivial⟩ rfl ?_
    rintro r m n' ⟨rfl,rfl⟩;refine⟨nn,⟨aL 0 dO,aL 1 dO,aL 2 dO,⟨3,_,rfl,rfl,F7 rfl rfl rfl⟩,⟨4,_,rfl,rfl,v7 rfl rfl⟩,trivial⟩,rfl, ?_⟩;cases b2 with
    | false=>
     refine Rr ?_;refine aW (n':=5) (m':=wV z2) [(0,0),(1,1),(2,2),(3,3),(4,4)] rfl ⟨aL 0 dO,aL 1 dO,aL 2 dO,⟨3,_,rfl,rfl,F7 rfl rfl rfl⟩,⟨4,_,rfl,rfl,v7 rfl rfl⟩,trivial⟩ (.same _ nn) ?_;have:=Gq dV (m:=ks.drop (k+1)) hnext;rw[List.take_append_drop] at this;rw[hvis,this];exact⟨rfl,rfl⟩
    | true=>
     refine Rr ?_;exact .mk (k+1,z2) [(0,0),(1,1),(2,2),(3,3),(4,4)] ⟨by simp only;omega,hnext⟩
      (aE _ rfl ⟨aL 0 dO,aL 1 dO,aL 2 dO,⟨3,_,rfl,rfl,F7 rfl rfl rfl⟩,⟨4,_,rfl,rfl,v7 rfl rfl⟩,trivial⟩ ⟨aJ,aF,aJ,aJ,⟨_,rfl,.w64 om oq⟩,trivial⟩) (by simp only;omega)
   .have hk':k=ks.length:=by have:=Jd h;omega
    refine Rr ?_;refine aW (n':=5) (m':=wV z) [(0,0),(1,1),(2,2),(3,3),(4,4)] rfl ⟨aL 0 dO,aL 1 dO,aL 2 dO,⟨3,_,rfl,rfl,F7 rfl rfl rfl⟩,⟨4,_,rfl,rfl,v7 rfl rfl⟩,trivial⟩ (.same _ nn) ?_;rw[hk',aAD] at hz;rw[hvis,hz];exact⟨rfl,rfl⟩
 termination_by v=>SizeOf.sizeOf v
 decreasing_by simp;have:=aBE hm;omega
theorem U4:∀(v:aQ) (x:VS),iO v->1+jI v<=1099511627776->x.1+bF v<=4398046511104 ->
   aH prog [] 179 [cO v,.fn (.func 180) [] [.ptr 0 0 0,.ptr 1 0 0,.ptr 2 0 0]] (vC x) 3 λr m _=>r = .tup []/\m=vC (qC dV v 1 x).2
 | .mk vk vn vs ks,x,hok,hd,hb=>by
  have hw:=Ry (.mk vk vn vs ks) 1 x hok hd hb;generalize qC dV (.mk vk vn vs ks) 1 x=st at hw;obtain⟨b,y⟩:=st;refine aD bE func179 rfl ?_;refine Rr ?_;refine aH.useR bE [(0,0),(1,1),(2,2),(4,3),(5,4)] hw (by rfl) (.s (.cons (.int rfl) (.cons (.ptr 4 3 0 0 rfl) (.cons (.ptr 5 4 0 0 rfl) .nil))))
   ⟨aL 0 dO,aL 1 dO,aL 2 dO,⟨4,_,rfl,rfl,WE rfl rfl rfl⟩,⟨5,_,rfl,rfl,P2 rfl rfl⟩,trivial⟩ rfl ?_
  rintro r m n' ⟨rfl,rfl⟩;refine⟨[(0,cI y.1),(1,cB y.2.1),(2,cB y.2.2)],nn,⟨aL 0 dO,aL 1 dO,aL 2 dO,trivial⟩,rfl, ?_⟩;refine Rr ?_;exact aW (n':=3) (m':=vC y) [(0,0),(1,1),(2,2)] rfl ⟨aL 0 dO,aL 1 dO,aL 2 dO,trivial⟩ (.same _ nn) ⟨rfl,rfl⟩
theorem Hq:∀v:aQ,iO v->bF v<=1048576->aT prog [] 107 [cO v] (.int .i64 (bG v))
 | .mk vk vn vs ks,hok,hs=>by
  have hd:=sY (.mk vk vn vs ks);have hw:=U4 (.mk vk vn vs ks) (0,true,true) hok om (by simp only;omega);have hval:=OP (.mk vk vn vs ks);generalize bG (.mk vk vn vs ks)=res at hval;generalize (qC dV (.mk vk vn vs ks) 1 (0,true,true)).2=y at hw hval;obtain⟨n,g,s⟩:=y;simp only at hval;refine aD bE func107 rfl ?_;refine Rr ?_;refine aH.useR bE [(1,0),(2,1),(3,2)] hw (by rfl) (.s (.cons (Y7 rfl rfl rfl) .nil)) ⟨aL 1 dO,aL 2 dO,aL 3 dO,trivial⟩ rfl ?_;rintro r m n' ⟨rfl,rfl⟩;refine⟨[(1,cI n),(2,cB g),(3,cB s)],nn,⟨aL 0 dO,aL 1 dO,aL 2 dO,trivial⟩,rfl, ?_⟩;cases g with
  | false=>
   refine Rr ?_;refine aA nn ⟨?_,rfl,rfl⟩;rw[<-hval];rfl
  | true=>
   cases s with
   | false=>
    refine Rr ?_;refine aA nn ⟨?_,rfl,rfl⟩;rw[<-hval];simp
   | true=>
    refine Rr ?_;refine aI (λh=>?_) (λh=>?_)
    .refine Rr ?_;refine aA nn ⟨?_,rfl,rfl⟩;rw[<-hval,aAe sq,aAh (by simp at h;omega)]
    .refine Rr ?_;refine aA nn ⟨?_,rfl,rfl⟩;rw[<-hval,aAe sq,aAe (by simp at h;simp;omega)]
end Go.Proofs.YtidjhgajglebnaaGreatDoor
namespace Go.Proofs.YtidjhgajglebnaaGreatDoor
open Go Go.Ax Go.Proofs Tryz
variable{J:List (Nat × Nat)}{mem:aP}
theorem Sy(s:List UInt8)(v1 v2:Int)(v3:List UInt8)(v4:List aQ)(hn:i64 v2)(hs:s.length<=90000000):aH prog [] 250 [.ptr 0 0 0,cO (.mk v1 v2 v3 v4)] (wM s) 2 (N9 (s++g9 v2)):=by
 have hI:=WA s v2 hn hs;generalize g9 v2=w at hI |-;refine aD bE func250 rfl ?_;refine Rr ?_;refine Cr 1 bE hI rfl rfl rfl rfl ?_;refine Rr ?_;exact tY (i:=9) rfl rfl om rfl rfl
theorem V2(s:List UInt8)(v1 v2:Int)(v3:List UInt8)(v4:List aQ)(hs:s.length<=90000000):aH prog [] 251 [.ptr 0 0 0,cO (.mk v1 v2 v3 v4)] (wM s) 2 (N9 (s++[if v2=1 then 1 else 0])):=by
 have hB:=Xd s (v2 == 1) hs;have e:(if (v2 == 1)=true then(1:UInt8) else 0)=if v2=1 then 1 else 0:=sq
 rw[e] at hB;generalize (if v2=1 then(1:UInt8) else 0)=w at hB |-;refine aD bE func251 rfl ?_;refine Rr ?_;refine Cr 1 bE hB rfl rfl rfl rfl ?_;refine Rr ?_;exact tY (i:=10) rfl rfl om rfl rfl
theorem Vk(s:List UInt8)(v1 v2:Int)(v3:List UInt8)(ks:List aQ)(hok:tO ks)(hf:c9 ks=true)(hs:s.length+60*cA ks+10<=80000000)
  (ih:∀v∈ks,∀s:List UInt8,s.length+60*bF v<=80000000->aH prog [] 193 [.ptr 0 0 0,cO v] (wM s) 2 (N9 (s++fI v))) :
  aH prog [] 252 [.ptr 0 0 0,cO (.mk v1 v2 v3 ks)] (wM s) 2 (N9 (s++(g9 ks.length++gV ks))):=by
 have hkl:=zH ks;have hI:=WA s ks.length (Dw om) om;have hil:=rW (Dw (n:=ks.length) om);generalize g9 ks.length=w0 at hI hil |-;have hlen:((aU ks).length:Int)=ks.length:=by rw[aC]
 refine aD bE func252 rfl ?_;refine Rr ?_;rw[hlen];refine Cr 1 bE hI rfl rfl rfl rfl ?_;refine Rr ?_;refine bA.at bE (λk:Nat=>k<=ks.length)
  (λk=>⟨[(0,.ptr 0 0 0),(14,.il 4 (aU ks)),(15,.int .i64 ks.length),(16,.int .i64 k)],[(0,wC 2 (s++(w0++gV (ks.take k))).length),(2,.row 5 1 (eF (s++(w0++gV (ks.take k)))))],3,24⟩) (λk=>ks.length-k) 0 [(0,0),(10,2)] sq
  (aE _ rfl ⟨⟨0,_,rfl,rfl,wB rfl (by simp[gV])⟩,⟨10,_,rfl,rfl,.eq (c7 _) (by simp[gV])⟩,trivial⟩ ⟨aF,aJ,⟨_,rfl,.int hlen⟩,aJ,trivial⟩) ?_
 intro k hk;refine Rr ?_;refine aI (λh=>?_) (λh=>?_)
 .have hlt:k<ks.length:=su h
  obtain⟨a,b,c,d,hm,hg,he,e1⟩:=cX hlt;have hih:=ih _ hm;have hpt:=L7 hlt;rw[he] at hpt;have hbound:=Cj (ks.take k) (OJ hok _) (GZ hf _);have hsz:=lC ks (k+1);rw[rG hlt,he] at hsz;generalize fI (.mk a b c d)=pv at hih hpt;obtain⟨pl,hpl⟩:∃pl,pl=gV (ks.take k):=⟨_,rfl⟩
  rw[<-hpl] at hpt hbound |-;refine Rr ?_;refine aB e1 ?_;refine Rr ?_;refine Cr 2 bE (hih (s++(w0++pl)) (by simp;omega)) rfl rfl rfl rfl ?_;refine Rr ?_;have hnx:s++(w0++pl)++pv=s++(w0++gV (ks.take (k+1))):=by rw[hpt];simp
  exact .mk (k+1) [(0,0),(4,2)] om (aE _ rfl ⟨⟨0,_,rfl,rfl,wB rfl (by rw[hnx])⟩,⟨4,_,rfl,rfl,.eq (c7 _) (by rw[hnx])⟩,trivial⟩ ⟨aF,aJ,aJ,⟨_,rfl,.w64 om oq⟩,trivial⟩) om
 .have hke:k=ks.length:=by simp at h;omega
  subst hke;rw[aAD];refine Rr ?_;exact tY (i:=2) rfl rfl om rfl rfl
theorem Xb(s:List UInt8)(v1 v2:Int)(v3:List UInt8)(ks:List aQ)(hok:tO ks)(hf:c9 ks=true)(hv3:v3.length<=16)(hs:s.length+60*cA ks+40<=80000000)
  (ih:∀v∈ks,∀s:List UInt8,s.length+60*bF v<=80000000->aH prog [] 193 [.ptr 0 0 0,cO v] (wM s) 2 (N9 (s++fI v))) :
  aH prog [] 253 [.ptr 0 0 0,cO (.mk v1 v2 v3 ks)] (wM s) 2 (N9 (s++((n9 v3.length++v3)++(g9 ks.length++gV ks)))):=by
 have hT:=Ye s v3 om;have hul:=rA (n:=v3.length) om;have hL:=Vk (s++(n9 v3.length++v3)) v1 v2 v3 ks hok hf (by simp;omega) ih;generalize n9 v3.length++v3=w at hT hL |-;generalize g9 ks.length++gV ks=w' at hL |-;refine aD bE func253 rfl ?_;refine Rr ?_;refine Cr 1 bE hT rfl rfl rfl rfl ?_;refine Rr ?_;refine Cr 9 bE hL rfl rfl rfl rfl ?_;refine Rr ?_;rw[<-List.append_assoc];exact tY (i:=10) rfl rfl om rfl rfl
def IV:AV:=.agg [.fn (.func 250) [.ptr 0 0 0] [],.fn (.func 251) [.ptr 0 0 0] [],.fn (.func 252) [.ptr 0 0 0] [],.fn (.func 253) [.ptr 0 0 0] []]
theorem NL{f:Fn}(h:lk J 0=some 0):Cv mem J (.fn f [.ptr 0 0 0] []) (.fn f [.ptr 0 0 0] []):=
 .fn f _ _ _ _ rfl rfl (jB.cons (.ptr 0 0 0 0 h) .nil).2 (jB.nil).2
theorem KJ(h:lk J 0=some 0):Cv mem J IV IV:=.agg' (.cons (NL h) (.cons (NL h) (.cons (NL h) (.cons (NL h) .nil))))
theorem Wl(s:List UInt8):aH prog [] 233 [.ptr 0 0 0] (wM s) 2 λr m n=>r=IV/\m=wM s/\n=2:=by
 refine aD bE func233 rfl ?_;refine Rr ?_;exact aW (r':=IV) (m':=wM s) (n':=2) [(0,0),(1,1)] rfl ⟨⟨0,_,rfl,rfl,wB rfl rfl⟩,aL 1 (c7 _),trivial⟩ (KJ rfl) ⟨rfl,rfl,rfl⟩
theorem Se:∀(v:aQ) (s:List UInt8),iO v->bT v=true->s.length+60*bF v<=80000000->aH prog [] 193 [.ptr 0 0 0,cO v] (wM s) 2 (N9 (s++fI v))
 | .mk k n t ks,s,ho,hf,hs=>by
  simp only[iO] at ho;obtain⟨hv1,hv2,hv3,hv4,hv5⟩:=ho;simp only[bT,aAd] at hf;obtain⟨hf1,hf2⟩:=hf;simp only[bF] at hs;have ih:∀v∈ks,∀s:List UInt8,s.length+60*bF v<=80000000->aH prog [] 193 [.ptr 0 0 0,cO v] (wM s) 2 (N9 (s++fI v)):=λv hm s h=>
   Se v s (jO hv5 v hm) (u6 hf2 hm) h
  have hI:=WA s k hv1 om;have hil:=rW hv1;rw[fI];obtain⟨w0,hw0⟩:∃w0,w0=g9 k:=⟨_,rfl⟩
  rw[<-hw0] at hI hil |-;unfold dA at hf1;refine aD bE func193 rfl ?_;refine Rr ?_;refine Cr 1 bE hI rfl rfl rfl rfl ?_;refine Rr ?_;refine aH.useN bE [(0,0),(9,1)] (Wl (s++w0)) rfl (.cons (.ptr 0 0 0 0 rfl) .nil) ⟨⟨0,_,rfl,rfl,wB rfl rfl⟩,aL 9 (c7 _),trivial⟩ rfl ?_;rintro r m n' ⟨rfl,rfl,rfl⟩;refine⟨[(0,0),(1,9)],_,[(0,wC 9 (s++w0).length),(9,.row 5 1 (eF (s++w0)))],17,KJ rfl,⟨⟨0,_,rfl,rfl,wB rfl rfl⟩,aL 1 (c7 _),trivial⟩,rfl, ?_⟩;by_cases k0:k=0
  .subst k0;have hC:=Sy (s++w0) 0 n t ks hv2 (by simp;omega);rw[aAh rfl];generalize g9 n=w at hC |-;refine Rt ?_;refine Cr 9 bE hC rfl rfl rfl rfl ?_;refine Rr ?_;rw[<-List.append_assoc];exact tY (i:=17) rfl rfl om rfl rfl
  .rw[aAe k0] at hf1 |-;by_cases k1:k=1
   .subst k1;have hC:=V2 (s++w0) 1 n t ks (by simp;omega);rw[aAh rfl];generalize [if n=1 then(1:UInt8) else 0]=w at hC |-;refine Rt ?_;refine Cr 9 bE hC rfl rfl rfl rfl ?_;refine Rr ?_;rw[<-List.append_assoc];exact tY (i:=17) rfl rfl om rfl rfl
   .rw[aAe k1] at hf1 |-;by_cases k2:k=2
    .subst k2;have hC:=Vk (s++w0) 2 n t ks hv5 hf2 (by simp;omega) ih;rw[aAe om,aAZ];generalize g9 ks.length++gV ks=w at hC |-;refine Rt ?_;refine Cr 9 bE hC rfl rfl rfl rfl ?_;refine Rr ?_;rw[<-List.append_assoc];exact tY (i:=17) rfl rfl om rfl rfl
    .rw[aAe k2] at hf1;by_cases k3:k=3
     .subst k3;rw[aAh rfl] at hf1 |-;have ht:t.length<=16:=by
       rcases aAr 16 t.length with h|h
       .rw[nQ h] at hf1;simp at hf1
       .exact h
      have hC:=Xb (s++w0) 3 n t ks hv5 hf2 ht (by simp;omega) ih;generalize n9 t.length++t++(g9 ks.length++gV ks)=w at hC |-;refine Rt ?_;refine Cr 9 bE hC rfl rfl rfl rfl ?_;refine Rr ?_;rw[<-List.append_assoc];exact tY (i:=17) rfl rfl om rfl rfl
     .rw[aAe k3] at hf1;cases hf1
theorem Xc(s:List UInt8)(hs:s.length<=90000000):aH prog [] 194 [.ptr 0 0 0] (wM s) 2 λr m n=>r = .il 1 (eF s)/\m=[]/\n=2:=by
 refine aD bE func194 rfl ?_;refine Rr ?_;have lT:=dN s;have eT:List.take s.length (List.drop 0 (eF s))=eF s:=by rw[aAJ,aAk (by rw[lT];omega)]
 refine aN (MH (by rw[lT];omega)) ?_;rw[eT];refine Rr ?_;refine aN (cD rfl rfl rfl (by rw[lT];simp;omega)) ?_;refine Rr ?_;exact aW (r':=.il 1 (eF s)) (m':=[]) (n':=2) [] rfl trivial (.fz' rfl rfl sq sq (c7 _)) ⟨rfl,rfl,rfl⟩
theorem NX:∀v:aQ,iO v->bF v<=1000000->aT prog [] 132 [cO v] (.tup [if bG v=0 then .il 1 (eF (fI v)) else .nsl,.int .i64 (bG v)])
 | .mk v1 v2 v3 v4,ho,hs=>by
  have hV:=Hq (.mk v1 v2 v3 v4) ho om;obtain⟨e,he⟩:∃e,e=bG (.mk v1 v2 v3 v4):=⟨_,rfl⟩
  rw[<-he] at hV |-;refine aD bE func132 rfl ?_;refine Rr ?_;refine hV.go ?_;by_cases h0:e=0
  .subst h0;rw[aAh rfl];have hf:=(ES he.symm).1;have hX:=Se (.mk v1 v2 v3 v4) [] ho hf (by simp;omega);have hpl:=JQ _ ho hf;generalize fI (.mk v1 v2 v3 v4)=w at hX hpl |-;have hwl:w.length<=50000000:=om;refine Rr ?_;refine aH.ph 5 1 ?_;refine aH.useN bE [(1,0),(2,1)] hX rfl (.cons (.ptr 1 0 0 0 rfl) (.same dO)) ⟨⟨1,_,rfl,rfl,.cons (.agg (.cons (.nslk 2 1 _ rfl rfl) .nil)) .nil⟩,aL 2 .nil,trivial⟩ rfl ?_;rintro r m n ⟨rfl,rfl,rfl⟩;rw[aAZ];refine⟨[(0,1),(2,3)],_,[(1,wC 3 w.length),(3,.row 5 1 (eF w))],4,.same _ nn,⟨⟨0,_,rfl,rfl,wB rfl rfl⟩,aL 2 (c7 _),trivial⟩,rfl, ?_⟩;refine Rr ?_;refine aH.useN bE [(1,0),(3,1)] (Xc w om) rfl (.cons (.ptr 1 0 0 0 rfl) .nil) ⟨⟨1,_,rfl,rfl,wB rfl rfl⟩,aL 3 (c7 _),trivial⟩ rfl ?_;rintro r m n ⟨rfl,rfl,rfl⟩;refine⟨[],_,[],4,.same _ (.il' (c7 _)),trivial,rfl, ?_⟩;refine Rr ?_;exact aA (.tup' (.cons (.il' (c7 _)) (.cons (.int _ _) .nil))) ⟨rfl,rfl,rfl⟩
  .have d1:(e != 0)=true:=su h0
   rw[aAe h0];refine Rr ?_;rw[d1];refine Rr ?_;exact aA nn ⟨rfl,rfl,rfl⟩
theorem gC.joinC{P:Program}{Z:List (Nat × AV)}{B:Nat}{V:Type}{rest:Code}{Q:Exit->St->Prop}{G:Prop}(hΓ:∀p∈Z,NN p.2)(R:V->Prop)(af:V->St)
  (h1:(∀(a:V) (s:St) (J:List (Nat × Nat)),R a->Conv B J s (af a)->gC P Z B rest s Q)->G) (h2:∀a,R a->gC P Z B rest (af a) Q):G:=h1 λa s J hr hc=>gC.conv hΓ hc (h2 a hr)
def U6:Code->Bool
 | .block _ _=>true
 | .seq _ b=>U6 b
 | _=>false
def FC:Code->Code
 | .seq a y=>match U6 a with
  | true=>y
  | false=>FC y
 | c=>c
def H9(f:Func):Code:=match f.body with
 | some c=>FC c
 | none=>.skip
theorem Ol(n:Int):i64 (IntKind.i64.wrap n):=by
 rw[IntKind.wrap_i64];exact oq
theorem TI(n most:Int)(hn:i64 n)(hm:1<=most):aT prog [] 30 [.int .i64 n,.int .i64 most] (.int .i64 (uT n most)):=by
 have hz:decide (most≠0)=true:=by simp;omega
 unfold i64 at hn;refine aD bE func30 rfl ?_;refine Rr ?_;refine aI (λh=>?_) (λh=>?_)
 .have h:n<0:=su h
  refine Rr ?_;refine aN (by rw[aAw om];rfl) ?_;refine Rr ?_;refine aA nn ⟨?_,rfl,rfl⟩;rw[uT,aAh h,w64 (x:=n+1) (y:=n+1) rfl oq,w64 (x:=0-(n+1)) (y:=-(n+1)) om oq]
 .have h:¬n<0:=su h
  refine Rr ?_;refine aN (by rw[aAw om];rfl) ?_;refine Rr ?_;refine aA nn ⟨?_,rfl,rfl⟩;rw[uT,aAe h]
theorem JE(l:List Int)(i most:Int)(hl:∀x∈l,i64 x)(hm:1<=most):aT prog [] 26 [.il 1 (bL l),.int .i64 i,.int .i64 most] (.int .i64 (nU l i most)):=by
 refine aD bE func26 rfl ?_;refine Rr ?_;refine aI (λh=>?_) (λh=>?_)
 .rw[h];refine Rr ?_;refine aA nn ⟨?_,rfl,rfl⟩;rw[nU,aAh (.inl (su h))]
 .have h0:0<=i:=su h
  rw[h];refine Rr ?_;refine aI (λh=>?_) (λh=>?_)
  .refine Rr ?_;refine aA nn ⟨?_,rfl,rfl⟩;rw[aK] at h;rw[nU,aAh (.inr (su h))]
  .rw[aK] at h;have h1:i<l.length:=su h
   obtain⟨q,rfl⟩:=aAu h0;have hq:q<l.length:=om;refine Rr ?_;refine aB (a:=.int .i64 l[q]) (by rw[aAc,bP,aAa hq];rfl) ?_;refine Rr ?_;refine(TI l[q] most (hl _ (aAq hq)) hm).go ?_;refine Rr ?_;refine aA nn ⟨?_,rfl,rfl⟩;rw[nU,aAe om,aAc,aAb,aAa hq];rfl
theorem R8(l:List Int)(i j:Int)(hl:∀x∈l,i64 x)(hi:1<=i)(hi':i<=1000)(hj:0<=j)(hj':j<=1000):aT prog [] 28 [.il 1 (bL l),.int .i64 i,.int .i64 j] (.int .i64 (sX l i j)):=by
 have hp:=JE l (3*i+j+2) 1000000 hl om;have hb:=mU (l:=l) (i:=3*i+j+2) (most:=1000000) om;have hk:sX l i j=if (nU l (3*i+j+2) 1000000).tmod 3=0 then((nU l (3*i+j+2) 1000000).tdiv 3).tmod i else max 0 (i-1-((nU l (3*i+j+2) 1000000).tdiv 3).tmod 3):=rfl
 generalize nU l (3*i+j+2) 1000000=p at hp hb hk;rw[hk];have hd:0<=p.tdiv 3/\p.tdiv 3<=1000000:=by
  rw[aBH hb.1];omega
 have hd3:0<=(p.tdiv 3).tmod 3/\(p.tdiv 3).tmod 3<3:=⟨aB4 _ hd.1,aBP _ om⟩
 refine aD bE func28 rfl ?_;refine Rr ?_;rw[w64 (x:=3*i) (y:=3*i) rfl oq,w64 (x:=3*i+j) (y:=3*i+j) rfl oq,w64 (x:=3*i+j+2) (y:=3*i+j+2) rfl oq];refine hp.go ?_;refine Rr ?_;refine aI (λh=>?_) (λh=>?_)
 .have h:p.tmod 3=0:=su h
  refine Rr ?_;refine aN (by rw[aAw om];rfl) ?_;refine Rr ?_;refine aA nn ⟨?_,rfl,rfl⟩;rw[aAh h,w64 (x:=p.tdiv 3) (y:=p.tdiv 3) rfl oq]
 .have h:¬p.tmod 3=0:=su h
  refine Rr ?_;refine aA nn ⟨?_,rfl,rfl⟩;rw[aAe h,w64 (x:=p.tdiv 3) (y:=p.tdiv 3) rfl oq,w64 (x:=i-1) (y:=i-1) rfl oq,w64 (x:=i-1-(p.tdiv 3).tmod 3) (y:=i-1-(p.tdiv 3).tmod 3) rfl oq];congr 1;simp;omega
theorem VB(k:Int)(h0:0<=k)(h1:k<=1000000):aT prog [] 27 [.int .i64 k] (cO (AC k)):=by
 have hd:0<=k.tdiv 4/\k.tdiv 4<=1000000:=by
  rw[aBH h0];omega
 have hm:0<=k.tmod 4/\k.tmod 4<4:=⟨aB4 _ h0,aBP _ om⟩
 have h9:0<=(k.tdiv 4).tmod 9/\(k.tdiv 4).tmod 9<9:=⟨aB4 _ hd.1,aBP _ om⟩
 have h3:0<=(k.tdiv 4).tmod 3/\(k.tdiv 4).tmod 3<3:=⟨aB4 _ hd.1,aBP _ om⟩
 have hw:IntKind.i64.wrap (k.tdiv 4)=k.tdiv 4:=w64 rfl oq;have hv:AC k=if k.tmod 4=0 then .mk 0 ((k.tdiv 4).tmod 9-4) [] []
  else if k.tmod 4=1 then .mk 1 ((k.tdiv 4).tmod 2) [] []
  else if k.tmod 4=2 then .mk 3 0 (([[76,101,97,102],[82,101,100],[88]]:List (List UInt8)).getD ((k.tdiv 4).tmod 3).toNat []) []
  else .mk 2 0 [] [.mk 0 ((k.tdiv 4).tmod 3) [] []]:=rfl
 generalize AC k=v at hv;have hw9:IntKind.i64.wrap ((k.tdiv 4).tmod 9-4)=(k.tdiv 4).tmod 9-4:=w64 rfl oq;refine aD bE func27 rfl ?_;rcases(show k.tmod 4=0\/k.tmod 4=1\/k.tmod 4=2\/k.tmod 4=3 by omega) with e|e|e|e
 .rw[aAh e] at hv;refine Rr ?_;rw[e];refine Rr ?_;rw[hw,hw9];exact gM (.agg' (.s (.s (.s (.cons (.nil 4) .nil))))) ⟨by rw[hv];rfl,rfl,rfl⟩
 .rw[aAe om,aAh e] at hv;refine Rr ?_;rw[e];refine Rr ?_;rw[hw];exact gM (.agg' (.s (.s (.s (.cons (.nil 4) .nil))))) ⟨by rw[hv];rfl,rfl,rfl⟩
 .rw[aAe om,aAe om,aAh e] at hv;refine Rr ?_;rw[e];refine Rr ?_;rw[hw];rcases(show (k.tdiv 4).tmod 3=0\/(k.tdiv 4).tmod 3=1\/(k.tdiv 4).tmod 3=2 by omega) with e3|e3|e3
  all_goals
   rw[e3] at hv |-;refine Rr ?_;exact gM (.agg' (.s (.s (.s (.cons (.nil 4) .nil))))) ⟨by rw[hv];rfl,rfl,rfl⟩
 .rw[aAe om,aAe om,aAe om] at hv;refine Rr ?_;rw[e];refine Rr ?_;rw[hw];exact gM (.agg' (.s (.s (.s (.cons (.fzR rfl rfl (.cons (Ml _ _ _) .nil) rfl) .nil))))) ⟨by rw[hv];rfl,rfl,rfl⟩
end Go.Proofs.YtidjhgajglebnaaGreatDoor
