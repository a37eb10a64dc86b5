/- A part of the proof. -/
import Derived.Test.YtidjhgajglebnaaGreatDoorAx13
import Derived.Test.YtidjhgajglebnaaGreatDoorProg
import Derived.KernelRfl
import Derived.Shelf.Strings.Builder1
import Derived.Shelf.Strings.Builder2
import Derived.Shelf.Strings.BuilderF
import Derived.Shelf.Strconv.Itoa0
import Derived.Shelf.Strconv.Itoa1
import Derived.Shelf.LaysM
import Derived.Shelf.Strconv.Itoa2
import Derived.Shelf.Strconv.Itoa3
import Derived.Shelf.Strings.Prefix
import Derived.Shelf.Bits.Mul64
import Derived.Shelf.Strings.Repeat
set_option linter.unusedVariables false
set_option linter.unusedSimpArgs false
namespace Go.Proofs.YtidjhgajglebnaaGreatDoor
open Go Go.Ax Go.Proofs Tryz
set_option maxRecDepth 100000
set_option maxHeartbeats 16000000
theorem Ws(x:Nd)(h:x.kind=1->dT x=true):aT prog [] 80 [.ip (cD x)] (.int .i64 (NT x)):=by
 have hr:x.kind=1->x.lo<=x.hi/\x.hi<x.lo+1099511627776:=fun e=>⟨(cY (h e)).1,(cY (h e)).2.2.2⟩
 have ho:NT x=if x.kind=1 then x.hi-x.lo+1 else x.kids.length:=rfl
 clear h;obtain⟨kind,name,lo,hi,ws,ls,vals,kids,⟨vk,vn,vs,vks⟩⟩:=x;simp only at hr ho;generalize NT ⟨kind,name,lo,hi,ws,ls,vals,kids,.mk vk vn vs vks⟩=o at *;refine aD bD func80 rfl ?_;refine Rr ?_;refine aH (fun h=>?_) (fun h=>?_)
 ·have h1:kind=1:=by simpa using h
  obtain⟨r1,r2⟩:=hr h1;rw[Yt h1] at ho;have hw:IntKind.i64.wrap (hi-lo)=hi-lo:=bA ⟨by omega,by omega⟩;have hw2:IntKind.i64.wrap (hi-lo+1)=o:=by rw[bA ⟨by omega,by omega⟩,ho]
  refine Rt ?_;rw[hw,hw2];exact aA nn ⟨rfl,rfl,rfl⟩
 ·have h1:¬kind=1:=by simpa using h
  rw[Yo h1] at ho;refine Rr ?_;exact fL (.int (by rw[ho,aI])) ⟨rfl,rfl,rfl⟩
theorem Sh(x:Nd)(v:aR):aT prog [] 133 [.ip (cD x),cN v] (.bool (jH x v)):=by
 have nx:=aV x;obtain⟨k,n,s,ks⟩:=v;have hm:jH x (.mk k n s ks)=(decide (ks.length=x.kids.length) && (if x.name=[] then decide (k=2) else decide (k=3) && decide (s=x.name))):=rfl;generalize jH x (.mk k n s ks)=r at *;obtain⟨kind,name,lo,hi,ws,ls,vals,kids,⟨vk,vn,vs,vks⟩⟩:=x;simp only at hm;have d0:((((aU ks).length:Nat):Int) != (((bH kids).length:Nat):Int)) = !decide (ks.length=kids.length):=by
  rw[aC,aI,ZN];simp;omega
 refine aD bD func133 rfl ?_;refine Rt ?_;rw[d0];by_cases h0:ks.length=kids.length
 ·rw[Y0 h0] at hm ⊢;refine Rt ?_;refine aH (fun h=>?_) (fun h=>?_)
  ·have h1:name=[]:=by simpa using h
   rw[Yt h1] at hm;refine Rt ?_;exact fL (r':=.bool r) (.bool (by rw[hm,ZN];simp)) ⟨rfl,rfl,rfl⟩
  ·have h1:¬name=[]:=by simpa using h
   rw[Yo h1] at hm;refine Rt ?_;refine aH (fun h=>?_) (fun h=>?_)
   ·have h3:k=3:=by simpa using h
    refine Rs ?_;repeat(rw[h];refine Rt ?_)
    exact fL (r':=.bool r) (.bool (by rw[hm,ZN];simp[h3])) ⟨rfl,rfl,rfl⟩
   ·have h3:¬k=3:=by simpa using h
    refine Rs ?_;repeat(rw[h];refine Rt ?_)
    exact fL (r':=.bool r) (.bool (by rw[hm,ZN];simp[h3])) ⟨rfl,rfl,rfl⟩
 ·rw[ZC h0] at hm ⊢;refine Rt ?_;exact fL (r':=.bool r) (.bool (by rw[hm];rfl)) ⟨rfl,rfl,rfl⟩
theorem Q9(x:Int):aT prog [] 224 [.int .i64 x] (.bool false):=by
 refine i6 bD func224 rfl ?_
 conv=>whnf
 refine aA (.bool _) ⟨?_,rfl,rfl⟩;simp
theorem Qb(x:List UInt8):aT prog [] 225 [.str x] (.bool false):=by
 refine i6 bD func225 rfl ?_
 conv=>whnf
 refine aA (.bool _) ⟨?_,rfl,rfl⟩;simp
theorem Ow(x y:Int):aT prog [] 176 [.int .i64 x,.int .i64 y] (.int .i64 (uZ x y)):=by
 refine i6 bD func176 rfl ?_
 conv=>whnf
 refine(Q9 x).use bD (.cons (.int _ _) .nil) (.bool _) ?_
 conv=>whnf
 refine(Q9 y).use bD (.cons (.int _ _) .nil) (.bool _) ?_
 conv=>whnf
 refine aH (fun h=>?_) (fun h=>?_)
 ·conv=>whnf
  refine aA (.int _ _) ⟨?_,rfl,rfl⟩;simp at h;simp[uZ,h]
 conv=>whnf
 refine aH (fun h'=>?_) (fun h'=>?_)
 ·conv=>whnf
  refine aA (.int _ _) ⟨?_,rfl,rfl⟩;simp at h h';simp only[uZ];rw[Yo (by omega),Yt (by omega)]
 ·conv=>whnf
  refine aA (.int _ _) ⟨?_,rfl,rfl⟩;simp at h h';simp only[uZ];rw[Yo (by omega),Yo (by omega)]
theorem Ue(x y:List UInt8):aT prog [] 177 [.str x,.str y] (.int .i64 (kZ x y)):=by
 refine i6 bD func177 rfl ?_
 conv=>whnf
 refine(Qb x).use bD (.cons (.str _) .nil) (.bool _) ?_
 conv=>whnf
 refine(Qb y).use bD (.cons (.str _) .nil) (.bool _) ?_
 conv=>whnf
 refine aH (fun h=>?_) (fun h=>?_)
 ·conv=>whnf
  refine aA (.int _ _) ⟨?_,rfl,rfl⟩;rw[GB.1 h]
 conv=>whnf
 refine aH (fun h'=>?_) (fun h'=>?_)
 ·conv=>whnf
  refine aA (.int _ _) ⟨?_,rfl,rfl⟩;rw[OQ h h']
 ·conv=>whnf
  refine aA (.int _ _) ⟨?_,rfl,rfl⟩;rw[Na h h']
theorem Sj(l1 l2:List aR)(hb:l1.length<=4294967296)(hc:∀a∈l1,∀b∈l2,aT prog [] 106 [cN a,cN b] (.int .i64 (cE a b))) :
  aT prog [] 178 [.il 4 (aU l1),.il 4 (aU l2),.fn (.func 106) [] []] (.int .i64 (gP l1 l2)):=by
 have n1:NN (.il 4 (aU l1)):=.il' (bI l1);have n2:NN (.il 4 (aU l2)):=.il' (bI l2);have n3:NN (.fn (.func 106) [] []):=.fn _ _ _ (by simp) (by simp);refine i6 bD func178 rfl ?_
 conv=>whnf
 refine fR.loopAt bD (fun k:Nat=>k<=l1.length/\k<=l2.length/\gP l1 l2=gP (l1.drop k) (l2.drop k))
  (fun k=>⟨[(0,.il 4 (aU l1)),(1,.il 4 (aU l2)),(2,.fn (.func 106) [] []),(11,.il 4 (aU l1)),(12,.int .i64 (aU l1).length),(13,.int .i64 k)],[],0,39⟩)
  (fun k=>l1.length-k) 0 [] ⟨by simp,by simp,by simp⟩
  (bL ⟨aN n1,aN n2,aN n3,aN n1,aN (.int _ _),aN (.int _ _),trivial⟩) ?_
 rintro k ⟨h1,h2,h3⟩
 conv=>whnf
 refine aH (fun h=>?_) (fun h=>?_)
 ·have hk:k<l1.length:=by rw[aC] at h;simpa using h
  obtain⟨⟨ka,na,sa,ksa⟩,hv⟩:∃v,v=l1[k]:=⟨_,rfl⟩
  have hm:aR.mk ka na sa ksa∈l1:=by rw[hv];exact Y8 hk
  have e:(aU l1)[(k:Int).toNat]? = some (cN (.mk ka na sa ksa)):=by rw[Yl,jE,Yj hk,hv];rfl
  conv=>whnf
  refine aB e ?_
  conv=>whnf
  refine aH (fun h'=>?_) (fun h'=>?_)
  ·have hk2:k=l2.length:=by rw[aC] at h';simp at h';omega
   conv=>whnf
   refine aA (.int _ _) ⟨?_,rfl,rfl⟩;rw[h3,Zv (l:=l2) (by omega),List.drop_eq_getElem_cons hk,gP]
  ·have hk2:k<l2.length:=by rw[aC] at h';simpa using h'
   obtain⟨⟨kb,nb,sb,ksb⟩,hv2⟩:∃v,v=l2[k]:=⟨_,rfl⟩
   have hm2:aR.mk kb nb sb ksb∈l2:=by rw[hv2];exact Y8 hk2
   have e2:(aU l2)[(k:Int).toNat]? = some (cN (.mk kb nb sb ksb)):=by rw[Yl,jE,Yj hk2,hv2];rfl
   conv=>whnf
   refine aB e2 ?_
   conv=>whnf
   refine(hc _ hm _ hm2).use bD (.cons (dC _) (.cons (dC _) .nil)) (.int _ _) ?_
   conv=>whnf
   have hs:=GI hk hk2;rw[←hv,←hv2] at hs;refine aH (fun h4=>?_) (fun h4=>?_)
   ·conv=>whnf
    refine aA (.int _ _) ⟨?_,rfl,rfl⟩;have h4:cE (.mk ka na sa ksa) (.mk kb nb sb ksb)≠0:=by simpa using h4
    rw[h3,hs,andThen,Yo h4]
   ·have h4:cE (.mk ka na sa ksa) (.mk kb nb sb ksb)=0:=by simpa using h4
    conv=>whnf
    refine .mk (k+1) [] ⟨by omega,by omega, ?_⟩ (bL ⟨aN n1,aN n2,aN n3,aN n1,aN (.int _ _),⟨_,rfl,.eq (.int _ _) ?_⟩,trivial⟩) (by omega)
    ·rw[h3,hs,andThen,Yt h4]
    ·rw[bA ⟨by omega,by omega⟩];rfl
 ·have hk:k=l1.length:=by rw[aC] at h;simp at h;omega
  have hd:l1.drop k=[]:=Zv (by omega)
  conv=>whnf
  refine aH (fun h'=>?_) (fun h'=>?_)
  ·have hk2:l1.length<l2.length:=by rw[aC,aC] at h';simpa using h'
   conv=>whnf
   refine aA (.int _ _) ⟨?_,rfl,rfl⟩;rw[h3,hd,List.drop_eq_getElem_cons (show k<l2.length by omega),gP]
  ·have hk2:l2.length<=l1.length:=by rw[aC,aC] at h';simpa using h'
   conv=>whnf
   refine aA (.int _ _) ⟨?_,rfl,rfl⟩;rw[h3,hd,Zv (by omega),gP]
theorem rU:∀(a b:aR),g9 a->aT prog [] 106 [cN a,cN b] (.int .i64 (cE a b))
 | .mk ka na sa ksa,.mk kb nb sb ksb,ha=>by
  simp only[g9] at ha;have hkids:∀a∈ksa,∀b∈ksb,aT prog [] 106 [cN a,cN b] (.int .i64 (cE a b)):=fun a hm b _=>rU a b (kA ha.2.2.2.2 a hm)
  refine i6 bD func106 rfl ?_
  conv=>whnf
  refine(Ow ka kb).use bD (.cons (.int _ _) (.cons (.int _ _) .nil)) (.int _ _) ?_
  conv=>whnf
  refine aH (fun h=>?_) (fun h=>?_)
  ·conv=>whnf
   refine aA (.int _ _) ⟨?_,rfl,rfl⟩;have h:uZ ka kb≠0:=by simpa using h
   rw[cE,andThen,Yo h]
  have h:uZ ka kb=0:=by simpa using h
  conv=>whnf
  refine(Ow na nb).use bD (.cons (.int _ _) (.cons (.int _ _) .nil)) (.int _ _) ?_
  conv=>whnf
  refine aH (fun h2=>?_) (fun h2=>?_)
  ·conv=>whnf
   refine aA (.int _ _) ⟨?_,rfl,rfl⟩;have h2:uZ na nb≠0:=by simpa using h2
   rw[cE,andThen,Yt h,andThen,Yo h2]
  have h2:uZ na nb=0:=by simpa using h2
  conv=>whnf
  refine(Ue sa sb).use bD (.cons (.str _) (.cons (.str _) .nil)) (.int _ _) ?_
  conv=>whnf
  refine aH (fun h3=>?_) (fun h3=>?_)
  ·conv=>whnf
   refine aA (.int _ _) ⟨?_,rfl,rfl⟩;have h3:kZ sa sb≠0:=by simpa using h3
   rw[cE,andThen,Yt h,andThen,Yt h2,andThen,Yo h3]
  have h3:kZ sa sb=0:=by simpa using h3
  conv=>whnf
  refine(Sj ksa ksb ha.2.2.2.1 hkids).use bD (.cons (.il' (bI _)) (.cons (.il' (bI _)) (.cons (.fn _ _ _ (by simp) (by simp)) .nil))) (.int _ _) ?_
  conv=>whnf
  refine aA (.int _ _) ⟨?_,rfl,rfl⟩;rw[cE,andThen,Yt h,andThen,Yt h2,andThen,Yt h3]
 termination_by a=>SizeOf.sizeOf a
 decreasing_by simp;have:=aAc hm;omega
theorem Iu(b:Bool):aT prog [] 149 [.bool b] (.int .i64 (if b then -1 else 1)):=by
 refine i6 bD func149 rfl ?_
 conv=>whnf
 refine aH (fun h=>?_) (fun h=>?_)
 ·conv=>whnf
  exact aA (.int _ _) ⟨by rw[h];rfl,rfl,rfl⟩
 ·conv=>whnf
  exact aA (.int _ _) ⟨by rw[h];rfl,rfl,rfl⟩
theorem rW:∀(a b:aR),g9 a->aT prog [] 93 [cN a,cN b] (.int .i64 (cE a b))
 | .mk ka na sa ksa,.mk kb nb sb ksb,ha=>by
  simp only[g9] at ha;have hb:ksa.length<=4294967296:=ha.2.2.2.1;have hkids:∀a∈ksa,∀b∈ksb,aT prog [] 93 [cN a,cN b] (.int .i64 (cE a b)):=fun a hm b _=>rW a b (kA ha.2.2.2.2 a hm)
  refine i6 bD func93 rfl ?_
  conv=>whnf
  refine aH (fun h=>?_) (fun h=>?_)
  ·conv=>whnf
   refine(Iu _).use bD (.cons (.bool _) .nil) (.int _ _) ?_
   conv=>whnf
   refine aA (.int _ _) ⟨?_,rfl,rfl⟩;rw[OR (by simpa using h)];simp
  have h:ka=kb:=by simpa using h
  conv=>whnf
  refine aH (fun h2=>?_) (fun h2=>?_)
  ·conv=>whnf
   refine(Iu _).use bD (.cons (.bool _) .nil) (.int _ _) ?_
   conv=>whnf
   refine aA (.int _ _) ⟨?_,rfl,rfl⟩;rw[Pg h (by simpa using h2)];simp
  have h2:na=nb:=by simpa using h2
  conv=>whnf
  refine aH (fun h3=>?_) (fun h3=>?_)
  ·conv=>whnf
   refine(Iu _).use bD (.cons (.bool _) .nil) (.int _ _) ?_
   conv=>whnf
   refine aA (.int _ _) ⟨?_,rfl,rfl⟩;rw[Uq h h2 (by simpa using h3)]
  have h3:sa=sb:=by simpa using h3
  have hcmp:cE (.mk ka na sa ksa) (.mk kb nb sb ksb)=gP ksa ksb:=UW h h2 h3
  conv=>whnf
  refine fR.loopAt bD (fun k:Nat=>k<=ksa.length/\k<=ksb.length/\gP ksa ksb=gP (ksa.drop k) (ksb.drop k))
   (fun k=>⟨[(2,.ptr 0 0 0),(3,.ptr 1 0 0),(5,.int .i64 k)],[(1,.row 55 4 [cN (.mk kb nb sb ksb)]),(0,.row 55 4 [cN (.mk ka na sa ksa)])],2,83⟩)
   (fun k=>ksa.length-k) 0 [(0,0),(1,1)] ⟨by simp,by simp,by simp⟩
   (aE _ rfl ⟨aL 1 (.cons (dC _) .nil),aL 0 (.cons (dC _) .nil),trivial⟩ ⟨aG,aG,aN (.int _ _),trivial⟩) ?_
  rintro k ⟨h4,h5,h6⟩
  conv=>whnf
  refine aH (fun h7=>?_) (fun h7=>?_)
  ·have hk:k<ksa.length:=by rw[aC] at h7;simpa using h7
   rw[h7]
   conv=>whnf
   refine aH (fun h8=>?_) (fun h8=>?_)
   ·have hk2:k<ksb.length:=by rw[aC] at h8;simpa using h8
    conv=>whnf
    have e1:=Hc hk;have e2:=Hc hk2;obtain⟨⟨k1,n1,s1,ks1⟩,hv1⟩:∃v,v=ksa[k]:=⟨_,rfl⟩
    obtain⟨⟨k2,n2,s2,ks2⟩,hv2⟩:∃v,v=ksb[k]:=⟨_,rfl⟩
    rw[←hv1] at e1;rw[←hv2] at e2;refine aB e1 ?_
    conv=>whnf
    refine aB e2 ?_
    conv=>whnf
    have hm1:aR.mk k1 n1 s1 ks1∈ksa:=by rw[hv1];exact Y8 hk
    have hm2:aR.mk k2 n2 s2 ks2∈ksb:=by rw[hv2];exact Y8 hk2
    have hs:=GI hk hk2;rw[←hv1,←hv2] at hs;refine(hkids _ hm1 _ hm2).use bD (.cons (dC _) (.cons (dC _) .nil)) (.int _ _) ?_
    conv=>whnf
    refine aH (fun h9=>?_) (fun h9=>?_)
    ·have h9:cE (.mk k1 n1 s1 ks1) (.mk k2 n2 s2 ks2)≠0:=by simpa using h9
     conv=>whnf
     refine aA (.int _ _) ⟨?_,rfl,rfl⟩;rw[hcmp,h6,hs,andThen,Yo h9]
    ·have h9:cE (.mk k1 n1 s1 ks1) (.mk k2 n2 s2 ks2)=0:=by simpa using h9
     conv=>whnf
     refine .mk (k+1) [(0,0),(1,1)] ⟨by omega,by omega,by rw[h6,hs,andThen,Yt h9]⟩ (aE _ rfl ⟨aL 1 (.cons (dC _) .nil),aL 0 (.cons (dC _) .nil),trivial⟩ ⟨aG,aG,⟨_,rfl,.eq (.int _ _) ?_⟩,trivial⟩) (by omega);rw[bA ⟨by omega,by omega⟩];rfl
   ·have hk2:k=ksb.length:=by rw[aC] at h8;simp at h8;omega
    conv=>whnf
    refine aH (fun h9=>?_) (fun h9=>?_)
    ·exfalso;rw[aC,aC] at h9;simp at h9;omega
    ·conv=>whnf
     refine(Iu _).use bD (.cons (.bool _) .nil) (.int _ _) ?_
     conv=>whnf
     refine aA (.int _ _) ⟨?_,rfl,rfl⟩;rw[hcmp,h6,Zv (l:=ksb) (by omega),List.drop_eq_getElem_cons hk,gP,aC,aC,Yo (by simp;omega)]
  ·have hk:k=ksa.length:=by rw[aC] at h7;simp at h7;omega
   have hd:ksa.drop k=[]:=Zv (by omega);rw[h7]
   conv=>whnf
   refine aH (fun h9=>?_) (fun h9=>?_)
   ·have h9:ksa.length=ksb.length:=by rw[aC,aC] at h9;simp at h9;omega
    conv=>whnf
    refine aA (.int _ _) ⟨?_,rfl,rfl⟩;rw[hcmp,h6,hd,Zv (by omega),gP]
   ·have h9:ksa.length≠ksb.length:=by rw[aC,aC] at h9;simp at h9;omega
    conv=>whnf
    refine(Iu _).use bD (.cons (.bool _) .nil) (.int _ _) ?_
    conv=>whnf
    refine aA (.int _ _) ⟨?_,rfl,rfl⟩;rw[hcmp,h6,hd,List.drop_eq_getElem_cons (show k<ksb.length by omega),gP,aC,aC,Yt (by simp;omega)]
 termination_by a=>SizeOf.sizeOf a
 decreasing_by simp;have:=aAc hm;omega
end Go.Proofs.YtidjhgajglebnaaGreatDoor
namespace Go.Proofs
open Go.Shelf
def Tryz.lays129_ren:Go.Shelf.Ren:=⟨fun|129=>235|n=>n,fun|53=>156|3=>3|4=>4|46=>157|5=>5|9=>9|n=>n,fun|n=>n⟩
theorem Tryz.lays129:Go.Proofs.Lays.n129 Tryz.prog Tryz.lays129_ren:={
 mixed:=by kernel_rfl
 f129:=Tryz.func235.trans (congrArg some (by kernel_rfl))
 t3:=Tryz.underlying3
 a3:=Tryz.isAgg3
 z3:=Tryz.sizeOf3
 v3:=Tryz.zeroValue3
 t4:=Tryz.underlying4
 a4:=Tryz.isAgg4
 z4:=Tryz.sizeOf4
 v4:=Tryz.zeroValue4
 t5:=Tryz.underlying5
 a5:=Tryz.isAgg5
 z5:=Tryz.sizeOf5
 v5:=Tryz.zeroValue5
 t9:=Tryz.underlying9
 a9:=Tryz.isAgg9
 z9:=Tryz.sizeOf9
 v9:=Tryz.zeroValue9
 t46:=Tryz.underlying157
 a46:=Tryz.isAgg157
 z46:=Tryz.sizeOf157
 v46:=Tryz.zeroValue157
 t53:=Tryz.underlying156
 a53:=Tryz.isAgg156
 z53:=Tryz.sizeOf156
 v53:=Tryz.zeroValue156 }
theorem Tryz.bits_Len64(x:Int)(w:World)(h0:0<=x)(h1:x<=18446744073709551615) :
  Calls Tryz.prog 235 #[.int .u64 x] w fun e w'=>e = .returned (.int .i64 (Lib.bitLen x.toNat))/\w'=w:=Any.bits_Len64 Tryz.lays129 x w h0 h1
def Tryz.lays317_ren:Go.Shelf.Ren:=⟨fun|317=>234|n=>n,fun|3=>3|46=>157|n=>n,fun|n=>n⟩
theorem Tryz.lays317:Go.Proofs.Lays.n317 Tryz.prog Tryz.lays317_ren:={
 mixed:=by kernel_rfl
 f317:=Tryz.func234.trans (congrArg some (by kernel_rfl))
 t3:=Tryz.underlying3
 a3:=Tryz.isAgg3
 z3:=Tryz.sizeOf3
 v3:=Tryz.zeroValue3
 t46:=Tryz.underlying157
 a46:=Tryz.isAgg157
 z46:=Tryz.sizeOf157
 v46:=Tryz.zeroValue157 }
open Go.Lib in
theorem Tryz.internal_strconv_log10Pow2(x:Nat)(h:x<=64)(w:World) :
  Calls Tryz.prog 234 #[.int .i64 x] w fun e w'=>e = .returned (.int .i64 (Lib.l10 x))/\w'=w:=Any.internal_strconv_log10Pow2 Tryz.lays317 x h w
open Go.Lib in
def Tryz.lays283_ren:Go.Shelf.Ren:=⟨fun|283=>195|n=>n,fun|3=>3|9=>9|4=>4|n=>n,fun|n=>n⟩
theorem Tryz.lays283:Go.Proofs.Lays.n283 Tryz.prog Tryz.lays283_ren:={
 mixed:=by kernel_rfl
 f283:=Tryz.func195.trans (congrArg some (by kernel_rfl))
 t3:=Tryz.underlying3
 a3:=Tryz.isAgg3
 z3:=Tryz.sizeOf3
 v3:=Tryz.zeroValue3
 t4:=Tryz.underlying4
 a4:=Tryz.isAgg4
 z4:=Tryz.sizeOf4
 v4:=Tryz.zeroValue4
 t9:=Tryz.underlying9
 a9:=Tryz.isAgg9
 z9:=Tryz.sizeOf9
 v9:=Tryz.zeroValue9 }
open Go.Lib in
theorem Tryz.internal_strconv_small(i:Nat)(h:i<100)(w:World) :
  Calls Tryz.prog 195 #[.int .i64 i] w fun e w'=>e = .returned (.string ⟨(Lib.decDigits i).toArray⟩)/\w'=w:=Any.internal_strconv_small Tryz.lays283 i h w
def Tryz.lays285_ren:Go.Shelf.Ren:=⟨fun|285=>197|n=>n,fun|37=>88|53=>156|3=>3|4=>4|51=>81|9=>9|5=>5|0=>0|n=>n,fun|n=>n⟩
theorem Tryz.lays285:Go.Proofs.Lays.n285 Tryz.prog Tryz.lays285_ren:={
 mixed:=by kernel_rfl
 f285:=Tryz.func197.trans (congrArg some (by kernel_rfl))
 t0:=Tryz.underlying0
 a0:=Tryz.isAgg0
 z0:=Tryz.sizeOf0
 v0:=Tryz.zeroValue0
 t3:=Tryz.underlying3
 a3:=Tryz.isAgg3
 z3:=Tryz.sizeOf3
 v3:=Tryz.zeroValue3
 t4:=Tryz.underlying4
 a4:=Tryz.isAgg4
 z4:=Tryz.sizeOf4
 v4:=Tryz.zeroValue4
 t5:=Tryz.underlying5
 a5:=Tryz.isAgg5
 z5:=Tryz.sizeOf5
 v5:=Tryz.zeroValue5
 t9:=Tryz.underlying9
 a9:=Tryz.isAgg9
 z9:=Tryz.sizeOf9
 v9:=Tryz.zeroValue9
 t37:=Tryz.underlying88
 a37:=Tryz.isAgg88
 z37:=Tryz.sizeOf88
 v37:=Tryz.zeroValue88
 t51:=Tryz.underlying81
 a51:=Tryz.isAgg81
 z51:=Tryz.sizeOf81
 v51:=Tryz.zeroValue81
 t53:=Tryz.underlying156
 a53:=Tryz.isAgg156
 z53:=Tryz.sizeOf156
 v53:=Tryz.zeroValue156 }
open Go.RowKit Go.Sort Go.Lib in
theorem Tryz.internal_strconv_formatBase10(blk off cap:Nat)(u:Nat)(d:Array UInt8)(w:World)(hH:Holds (fun(b:UInt8)=>Value.int .u8 (b.toNat:Int)) w blk off d)(hu:u<10 ^ d.size)(hu64:u<18446744073709551616)(hsz:d.size<4611686018427387904) :
  Calls Tryz.prog 197 #[.slice (some ⟨blk,off,none⟩) d.size cap,.int .u64 u] w fun e w'=>
   e = .returned (.tuple #[])/\∃(n v':Nat) (dk:Array UInt8),w'=(putRow (fun(b:UInt8)=>Value.int .u8 (b.toNat:Int)) w blk off dk).drewN n/\FmtInv d.size u 0 v' dk:=Any.internal_strconv_formatBase10 Tryz.lays285 blk off cap u d w hH hu hu64 hsz
end Go.Proofs
namespace Go.Proofs.YtidjhgajglebnaaGreatDoor
open Go Go.Ax Go.Proofs Tryz
set_option maxRecDepth 100000
set_option maxHeartbeats 4000000
theorem dQ:∀p∈gz,NN p.2:=fun p hp=>by
 simp only[gz,Yr,List.not_mem_nil,or_false] at hp;rcases hp with rfl|rfl|rfl
 ·exact nn
 ·exact nn
 ·exact nn
theorem U2(u:Nat)(h:u<18446744073709551616):aT prog [] 235 [.int .u64 u] (.int .i64 (Lib.bitLen u)):=
 DK (fun _ _ _ _ _ h=>HL h) fun w _=>(Tryz.bits_Len64 u w (by omega) (by omega)).mono fun e w' ⟨h1,h2⟩=>⟨_,h1,fun _ _ _ _=>.int _ _,by rw[h2];exact .refl w⟩
theorem Uk(x:Nat)(h:x<=64):aT prog [] 234 [.int .i64 x] (.int .i64 (Lib.l10 x)):=
 DK (fun _ _ _ _ _ h=>HL h) fun w _=>(Tryz.internal_strconv_log10Pow2 x h w).mono fun e w' ⟨h1,h2⟩=>⟨_,h1,fun _ _ _ _=>.int _ _,by rw[h2];exact .refl w⟩
theorem Um(i:Nat)(h:i<100):aT prog [] 195 [.int .i64 i] (.str (Lib.decDigits i)):=
 DK (fun _ _ _ _ _ h=>HL h) fun w _=>(Tryz.internal_strconv_small i h w).mono fun e w' ⟨h1,h2⟩=>⟨_,h1,fun _ _ _ _=>.str _,by rw[h2];exact .refl w⟩
theorem VO(b:Bool):aT prog [] 236 [.bool b] (.int .i64 (if b then 1 else 0)):=by
 cases b
 all_goals
  refine aD bD func236 rfl ?_;refine Rr ?_;exact aA nn ⟨rfl,rfl,rfl⟩
theorem Qv(t:TypeId)(xs:List UInt8)(u:Nat)(hu64:u<18446744073709551616)(hlen:1+Lib.nDigits u<=xs.length)(hxl:xs.length<=1000) :
  aF prog [] 197 [.sl 0 1 (Lib.nDigits u),.int .u64 u] [(0,.row t 1 (dY xs))] 1 fun r m n=>r = .tup []/\m=[(0,.row t 1 (dY (xs.take 1++Lib.decDigits u++xs.drop (1+Lib.nDigits u))))]:=
 WY Tryz.internal_strconv_formatBase10 xs u hu64 hlen hxl
def WN:List AV:=[.int .u64 1,.int .u64 10,.int .u64 100,.int .u64 1000,.int .u64 10000,.int .u64 100000,.int .u64 1000000,.int .u64 10000000,.int .u64 100000000,.int .u64 1000000000,.int .u64 10000000000,.int .u64 100000000000,.int .u64 1000000000000,.int .u64 10000000000000,.int .u64 100000000000000,.int .u64 1000000000000000,.int .u64 10000000000000000,.int .u64 100000000000000000,.int .u64 1000000000000000000,.int .u64 10000000000000000000]
theorem Vb(q:Nat)(h:q<=19):WN[q]? = some (.int .u64 ((10 ^ q:Nat):Int)):=by
 rcases(show q=0∨q=1∨q=2∨q=3∨q=4∨q=5∨q=6∨q=7∨q=8∨q=9∨q=10∨q=11∨q=12∨q=13∨q=14∨q=15∨q=16∨q=17∨q=18∨q=19 by omega) with rfl|rfl|rfl|rfl|rfl|rfl|rfl|rfl|rfl|rfl|rfl|rfl|rfl|rfl|rfl|rfl|rfl|rfl|rfl|rfl<;>rfl
theorem DD(u:Nat)(h1:1<=u)(h2:u<18446744073709551616):aT prog gz 196 [.int .u64 u] (.int .i64 (Lib.nDigits u)):=by
 obtain⟨e1,e2⟩:=Lib.numDigits_eq u h1 h2;have hL:=U2 u h2;have hb:Lib.bitLen u<=64:=Lib.bitLen_le u 64 (Yy _) h2;generalize Lib.bitLen u=L at *;have hq:=Uk L hb;generalize Lib.l10 L=q at *;generalize Lib.nDigits u=nd at *;have htab:=Vb q e2;refine aD dQ func196 rfl ?_;refine Rr ?_;refine hL.goG ?_;refine Rr ?_;refine hq.goG ?_;refine Rr ?_;refine aM (b:=Nat.blt q 20) (Yp (by omega)) ?_;refine Rr ?_;have htab':WN[((q:Int)).toNat*1]? = some (.int .u64 ((10 ^ q:Nat):Int)):=by simpa using htab
 clear htab;have hpq:∃pq:Int,pq=((10 ^ q:Nat):Int):=⟨_,rfl⟩
 obtain⟨pq,hpq⟩:=hpq;rw[←hpq] at htab';refine aB htab' ?_;refine Rr ?_;refine(VO _).goG ?_;refine Rr ?_;refine aA nn ⟨?_,rfl,rfl⟩;congr 1;have hle:decide ((u:Int)≥pq)=decide (10 ^ q<=u):=by rw[hpq];simp only[ge_iff_le,Int.ofNat_le]
 have hnd:nd<=20:=by rw[←e1];split<;>omega
 rw[hle,w64 (y:=(nd:Int)) _ ⟨by omega,by omega⟩];rw[←e1];by_cases hc:10 ^ q<=u<;>simp[hc]
theorem y8(u:Nat)(h2:u<18446744073709551616):Lib.nDigits u<=20:=by
 by_cases h1:1<=u
 ·obtain⟨e1,e2⟩:=Lib.numDigits_eq u h1 h2;rw[←e1];split<;>omega
 ·rw[Lib.nDigits_small (by omega)];omega
theorem DF(n:Int):IntKind.u64.wrap n=n%18446744073709551616:=by
 simp[IntKind.wrap,IntKind.bits,IntKind.signed]
theorem KA(n:Int)(hn:i64 n):aT prog gz 134 [.int .i64 n,.int .i64 10] (.str (Lib.itoa n)):=by
 rcases(show (0<=n/\n<100)∨100<=n∨n<0 by omega) with⟨h0,h1⟩|h1|h1
 ·obtain⟨i,rfl⟩:∃i:Nat,n=i:=⟨n.toNat,by omega⟩
  have d2:decide ((i:Int)<100)=true:=by simpa using h1
  refine aD dQ func134 rfl ?_;refine Rr ?_;rw[d2];refine Rr ?_;refine(Um i (by omega)).goG ?_;refine Rr ?_;refine aA nn ⟨?_,rfl,rfl⟩;rw[Lib.itoa_nonneg]
 ·obtain⟨u,rfl⟩:∃i:Nat,n=i:=⟨n.toNat,by omega⟩
  have d2:decide ((u:Int)<100)=false:=by simp;omega
  have d3:decide ((u:Int)<0)=false:=by simp
  unfold i64 at hn;have hw:IntKind.u64.wrap (u:Int)=(u:Int):=by rw[DF];omega
  have hu64:u<18446744073709551616:=by omega
  have hnd:=y8 u hu64;have hF:=(Qv 291 (List.replicate 24 0) u hu64 (by simp;omega) (by simp)).glob (Γ:=gz);have hdl:=Lib.decDigits_length u;have hN:=DD u (by omega) hu64;have hdd:(Lib.decDigits u++List.drop (1+Lib.nDigits u) (List.replicate 24 0)).length=23:=by simp[hdl];omega
  have hit:=Lib.itoa_nonneg u;generalize Lib.nDigits u=nd at hN hF hnd hdl hdd;generalize Lib.decDigits u=ds at hF hdl hit hdd;refine aD dQ func134 rfl ?_;refine Rr ?_;rw[d2];refine Rr ?_;rw[hw];refine hN.use dQ dI nn ?_;refine Rr ?_;rw[w64 (x:=1+(nd:Int)) (y:=((1+nd:Nat):Int)) (by omega) ⟨by omega,by omega⟩];refine Rr ?_;refine aM (JU (by simp;omega) (by simp;omega) (by simp)) ?_;refine Rr ?_;refine aF.useI dQ [0] hF (by rfl) (.cons (.slE rfl (by simp;omega)) (.s .nil)) ⟨aL 0 (cW _),trivial⟩ rfl ?_;rintro r m n' ⟨rfl,rfl⟩;refine⟨nn,⟨aL 0 (cW _),trivial⟩,rfl, ?_⟩;have hlist:List.take 1 (List.replicate 24 (0:UInt8))++ds++List.drop (1+nd) (List.replicate 24 0)=0::(ds++List.drop (1+nd) (List.replicate 24 0)):=rfl;rw[hlist];have htk:List.take nd (ds++List.drop (1+nd) (List.replicate 24 0))=ds:=by rw[aBr (by omega),Yu (by omega)]
  generalize ds++List.drop (1+nd) (List.replicate 24 0)=rest at hdd htk;have hrl:(dY (0::rest)).length=24:=by rw[dH];simp[hdd]
  refine Rr ?_;refine aM (by rw[Yk];exact⟨rfl,Yp (by rw[hrl];omega)⟩) ?_;refine Rr ?_;rw[w64 (x:=1+(nd:Int)) (y:=((1+nd:Nat):Int)) (by omega) ⟨by omega,by omega⟩];refine Rr ?_;refine aM (JU (by simp;omega) (by simp;omega) (by simp)) ?_;refine Rr ?_;refine aM (Yp (by rw[hrl];simp;omega)) ?_;refine aB (a:=ds) ?_ ?_
  ·rw[F1,Bo,pL]
   show some (List.take ((((1+nd:Nat):Int)).toNat-1) rest)=some ds
   rw[←htk];congr 2;simp;omega
  refine Rr ?_;refine aA nn ⟨?_,rfl,rfl⟩;rw[hit]
 ·obtain⟨u,rfl⟩:∃i:Nat,n = -(i:Int):=⟨(-n).toNat,by omega⟩
  have d1:decide (0<=-(u:Int))=false:=by simp;omega
  have d3:decide (-(u:Int)<0)=true:=by simp;omega
  unfold i64 at hn;have hw:IntKind.u64.wrap (0-IntKind.u64.wrap (-(u:Int)))=(u:Int):=by rw[DF,DF];omega
  have hu64:u<18446744073709551616:=by omega
  have hnd:=y8 u hu64;have hF:=(Qv 291 (List.replicate 24 0) u hu64 (by simp;omega) (by simp)).glob (Γ:=gz);have hdl:=Lib.decDigits_length u;have hN:=DD u (by omega) hu64;have hdd:(Lib.decDigits u++List.drop (1+Lib.nDigits u) (List.replicate 24 0)).length=23:=by simp[hdl];omega
  have hit:=Lib.itoa_neg u (by omega);generalize Lib.nDigits u=nd at hN hF hnd hdl hdd;generalize Lib.decDigits u=ds at hF hdl hit hdd;refine aD dQ func134 rfl ?_;refine Rr ?_;rw[d1];refine Rr ?_;rw[d3];refine Rr ?_;rw[hw];refine hN.use dQ dI nn ?_;refine Rr ?_;rw[w64 (x:=1+(nd:Int)) (y:=((1+nd:Nat):Int)) (by omega) ⟨by omega,by omega⟩];refine Rr ?_;refine aM (JU (by simp;omega) (by simp;omega) (by simp)) ?_;refine Rr ?_;refine aF.useI dQ [0] hF (by rfl) (.cons (.slE rfl (by simp;omega)) (.s .nil)) ⟨aL 0 (cW _),trivial⟩ rfl ?_;rintro r m n' ⟨rfl,rfl⟩;refine⟨nn,⟨aL 0 (cW _),trivial⟩,rfl, ?_⟩;have hlist:List.take 1 (List.replicate 24 (0:UInt8))++ds++List.drop (1+nd) (List.replicate 24 0)=0::(ds++List.drop (1+nd) (List.replicate 24 0)):=rfl;rw[hlist];have htk:List.take nd (ds++List.drop (1+nd) (List.replicate 24 0))=ds:=by rw[aBr (by omega),Yu (by omega)]
  generalize ds++List.drop (1+nd) (List.replicate 24 0)=rest at hdd htk;have hrl:∀b,(dY (b::rest)).length=24:=fun b=>by rw[dH];simp[hdd]
  refine Rr ?_;rw[d3];refine Rr ?_;refine aM (by rw[Yk];exact⟨rfl,Yp (Nat.le_of_eq (hrl 45).symm)⟩) ?_;refine Rr ?_;rw[w64 (x:=1+(nd:Int)) (y:=((1+nd:Nat):Int)) (by omega) ⟨by omega,by omega⟩];refine Rr ?_;refine aM (JU (by simp) (by simp;omega) (by simp)) ?_;refine Rr ?_;refine aM (Yp (show _<=(dY (45::rest)).length by rw[hrl];simp;omega)) ?_;refine aB (a:=45::ds) (show Go.Ax.f8 (List.take ((((1+nd:Nat):Int)).toNat-0) (List.drop (0+0) (dY (45::rest))))=_ from ?_) ?_
  ·rw[F1,Bo,pL];have e:(((1+nd:Nat):Int)).toNat-0=nd+1:=by simp;omega
   rw[e]
   show some (45::List.take nd rest)=_
   rw[htk]
  refine Rr ?_;refine aA nn ⟨?_,rfl,rfl⟩;rw[hit]
theorem VA(n:Int)(hn:i64 n):aT prog gz 84 [.int .i64 n] (.str (Lib.itoa n)):=by
 have h:=KA n hn;generalize Lib.itoa n=r at h;refine aD dQ func84 rfl ?_;refine Rr ?_;refine h.use dQ dI nn ?_;refine Rr ?_;exact aA nn ⟨rfl,rfl,rfl⟩
theorem WF(n:Int)(hn:i64 n):aT prog gz 40 [.int .i64 n] (.str (Lib.itoa n)):=by
 have h:=VA n hn;generalize Lib.itoa n=r at h;refine aD dQ func40 rfl ?_;refine Rr ?_;refine h.use dQ dI nn ?_;refine Rr ?_;exact aA nn ⟨rfl,rfl,rfl⟩
set_option maxHeartbeats 4000000
def XU:Bool->AV
 | true=>.ptr 0 0 0
 | false=>.nptr
abbrev bC(a:AV)(id n:Nat):AB:=.row 90 2 [.agg [a,.sl id 0 n]]
abbrev bM(a:Bool)(s:List UInt8):aQ:=[(0,bC (XU a) 1 s.length),(1,.row 5 1 (dY s))]
def bN(s:List UInt8)(m:aQ)(n:Nat):Prop:=m=[(0,bC (.ptr 0 0 0) 2 s.length),(2,.row 5 1 (dY s))]/\n=3
theorem GQ{mem:aQ}{σ:List (Nat × Nat)}{a:Bool}{i j n:Nat}(h0:lk σ 0=some 0)(h1:lk σ i=some j):tL mem σ [.agg [XU a,.sl i 0 n]] [.agg [XU a,.sl j 0 n]]:=
 .cons (.agg (.cons (by cases a;exact .same _ nn;exact .ptr 0 0 0 0 h0) (.cons (.sl i j 0 n h1) .nil))) .nil
theorem PX(a:Bool)(s:List UInt8):aF prog [] 89 [.ptr 0 0 0] (bM a s) 2 fun r m n=>r = .tup []/\m=bM true s/\n=2:=by
 refine aD bD func89 rfl ?_;cases a with
 | false=>
  refine Rr ?_;exact bF (r':=.tup []) (m':=bM true s) (n':=2) [(0,0),(1,1)] rfl ⟨⟨0,_,rfl,rfl,GQ (a:=true) rfl rfl⟩,aL 1 (cW _),trivial⟩ (.same _ nn) ⟨rfl,rfl,rfl⟩
 | true=>
  refine Rr ?_;exact bF (r':=.tup []) (m':=bM true s) (n':=2) [(0,0),(1,1)] rfl ⟨⟨0,_,rfl,rfl,GQ (a:=true) rfl rfl⟩,aL 1 (cW _),trivial⟩ (.same _ nn) ⟨rfl,rfl,rfl⟩
theorem Ll(a:Bool)(s w:List UInt8)(hs:s.length+w.length<=100000000):aF prog [] 43 [.ptr 0 0 0,.str w] (bM a s) 2 fun r m n=>r = .tup [.int .i64 w.length,.nif]/\bN (s++w) m n:=by
 refine aD bD func43 rfl ?_;refine Rr ?_;refine aF.useI bD [0,1] (PX a s) rfl (.cons (.ptr 0 0 0 0 rfl) .nil) ⟨⟨0,_,rfl,rfl,GQ rfl rfl⟩,aL 1 (cW _),trivial⟩ rfl ?_;rintro r m n ⟨rfl,rfl,rfl⟩;refine⟨nn,⟨⟨0,_,rfl,rfl,GQ (a:=true) rfl rfl⟩,aL 1 (cW _),trivial⟩,rfl, ?_⟩;refine Rr ?_;have e:List.map (fun b:UInt8=>AV.int IntKind.u8 (b.toNat:Int)) w=dY w:=rfl;rw[e];refine aM (bT rfl rfl (dH _).symm (by rw[dH];omega)) ?_;refine Rr ?_;exact bF (r':=.tup [.int .i64 w.length,.nif]) (m':=[(0,bC (.ptr 0 0 0) 2 (s++w).length),(2,.row 5 1 (dY (s++w)))]) (n':=3) [(0,0),(2,2)] rfl
  ⟨⟨0,_,rfl,rfl,.cons (.agg (.cons (.ptr 0 0 0 0 rfl) (.cons (.slE rfl (by rw[dH,Y1])) .nil))) .nil⟩,⟨2,_,rfl,rfl,.eq (cW _) (jV _ _).symm⟩,trivial⟩ (.same _ nn) ⟨rfl,rfl,rfl⟩
theorem V1(a:Bool)(s:List UInt8)(c:UInt8)(hs:s.length<=100000000):aF prog [] 42 [.ptr 0 0 0,.int .u8 c.toNat] (bM a s) 2 fun r m n=>r = .nif/\bN (s++[c]) m n:=by
 refine aD bD func42 rfl ?_;refine Rr ?_;refine aF.useI bD [0,1] (PX a s) rfl (.cons (.ptr 0 0 0 0 rfl) .nil) ⟨⟨0,_,rfl,rfl,GQ rfl rfl⟩,aL 1 (cW _),trivial⟩ rfl ?_;rintro r m n ⟨rfl,rfl,rfl⟩;refine⟨nn,⟨⟨0,_,rfl,rfl,GQ (a:=true) rfl rfl⟩,aL 1 (cW _),trivial⟩,rfl, ?_⟩;refine Rr ?_;refine aM (bT rfl rfl (dH _).symm (by simp;omega)) ?_;refine Rr ?_;exact bF (r':=.nif) (m':=[(0,bC (.ptr 0 0 0) 2 (s++[c]).length),(2,.row 5 1 (dY (s++[c])))]) (n':=3) [(0,0),(3,2)] rfl
  ⟨⟨0,_,rfl,rfl,.cons (.agg (.cons (.ptr 0 0 0 0 rfl) (.cons (.slE rfl (by simp)) .nil))) .nil⟩,⟨3,_,rfl,rfl,.eq (cW _) (by rw[jV];rfl)⟩,trivial⟩ (.same _ nn) ⟨rfl,rfl,rfl⟩
theorem BJ{ids:List Nat}{k:Nat}(hk:B8 k ids=true):∀(m:aQ),lk (jM ids m) k=lk m k
 | []=>rfl
 | (j,b)::r=>by
  simp only[jM,lk];split
  ·simp only[lk,BJ hk r]
  ·rename_i h;rw[BJ hk r];split
   ·rename_i e;rw[Nat.eq_of_beq_eq_true e,hk] at h;cases h
   ·rfl
theorem Xx(a:AB)(c:UInt8)(w:List UInt8)(hl:w.length<=9000000000000):sB prog [(0,a),(1,.row 5 1 (dY (c::w)))] 163 (.ptr 1 0 0) (.int .i64 (((c::w).length:Nat):Int))=some (.str (c::w),[(0,a)]):=by
 have e1:(((c::w).length:Nat):Int)=Int.ofNat (w.length+1):=rfl;have hb:oK (List.take (w.length+1) (dY (c::w)))=some (c::w):=by rw[Bo,BL,Yu (by simp)]
 have hce:Tryz.prog.cellsOf 5=1:=by kernel_rfl
 have hbl:Nat.ble (w.length+1) 9223372036854775807=true:=Yp (by omega);have hq:Nat.beq (c::w).length (w.length+1)=true:=by simp
 rw[e1];simp only[sB,lk,Tryz.underlying163,hce,hbl,hb,hq,drop];rfl
theorem T7(s:List UInt8)(hs:s≠[])(hl:s.length<=1000000000):aF prog [] 44 [.ptr 0 0 0] (bM true s) 2 fun r m n=>r = .str s/\m=[]/\n=2:=by
 refine aD bD func44 rfl ?_;obtain⟨c,w,rfl⟩:∃c w,s=c::w:=by
  cases s with
  | nil=>exact absurd rfl hs
  | cons c w=>exact⟨c,w,rfl⟩
 refine Rt ?_;rw[Xx _ c w (by simp at hl;omega)];refine Rr ?_;exact bF (r':=.str (c::w)) (m':=[]) (n':=2) [] rfl trivial (.same _ nn) ⟨rfl,rfl,rfl⟩
set_option maxHeartbeats 4000000
abbrev wC(id n:Nat):AB:=.row 288 1 [.agg [.sl id 0 n]]
abbrev wM(s:List UInt8):aQ:=[(0,wC 1 s.length),(1,.row 5 1 (dY s))]
def wN(s:List UInt8)(m:aQ)(n:Nat):Prop:=m=[(0,wC 2 s.length),(2,.row 5 1 (dY s))]/\n=3
def OI(s:List UInt8)(r:AV)(m:aQ)(n:Nat):Prop:=r = .tup []/\wN s m n
theorem uM{mem:aQ}{σ:List (Nat × Nat)}{i j n n':Nat}(h1:lk σ i=some j)(h:n=n'):tL mem σ [.agg [.sl i 0 n]] [.agg [.sl j 0 n']]:=
 .cons (.agg (.cons (.slE h1 h) .nil)) .nil
theorem BU{Γ:List (Nat × AV)}{F:FuncId}{aa:List AV}{s s':List UInt8}{rv:AV}{mem:aQ}{nx:Nat}{K:AV->aQ->Nat->Prop}(i:Nat)(hΓ:∀p∈Γ,NN p.2)
  (h:aF prog Γ F (.ptr 0 0 0::aa) (wM s) 2 fun r m n=>r=rv/\wN s' m n) (h0:lk mem 0=some (wC i s.length)) (h1:lk mem i=some (.row 5 1 (dY s))) (hi:Nat.blt 0 i=true) (hin:Nat.blt i nx=true)
  (hk:K rv ((0,wC nx s'.length)::(nx,.row 5 1 (dY s'))::iS [0,i] mem) (nx+1)) (ha:kI aa:=by exact dI) (hr:NN rv:=by exact nn):aF prog Γ F (.ptr 0 0 0::aa) mem nx K:=by
 have hi:=Yq hi;have hin:=Yq hin;have e0:Nat.beq 0 i=false:=oL (by omega);have k0:B8 0 [0,i]=true:=rfl;have ki:B8 i [0,i]=true:=by simp[B8,e0]
 have s0:lk [(0,0),(i,1)] 0=some 0:=rfl;have si:lk [(0,0),(i,1)] i=some 1:=by simp[lk,e0]
 refine aF.useN hΓ [(0,0),(i,1)] h rfl (.cons (.ptr 0 0 0 0 rfl) (.same ha)) ⟨⟨0,_,s0,by rw[←h0];exact BJ k0 mem,uM si rfl⟩,⟨i,_,si,by rw[←h1];exact BJ ki mem,.same (cW _)⟩,trivial⟩ rfl ?_;rintro r m n ⟨rfl,rfl,rfl⟩;refine⟨[(0,0),(2,nx)],_,[(0,wC nx s'.length),(nx,.row 5 1 (dY s'))],nx+1,.same _ hr,⟨⟨0,_,rfl,rfl,uM rfl rfl⟩,aL 2 (cW _),trivial⟩, ?_,hk⟩;have e1:Nat.beq nx 0=false:=oL (by omega);have e2:Nat.ble nx 0=false:=by
  cases e:Nat.ble nx 0 with
  | false=>rfl
  | true=>have:=Yq e;omega
 have e3:Nat.ble nx nx=true:=Yp (Yy _);have e4:Nat.ble nx (nx+1)=true:=Yp (by omega);have e5:Nat.blt nx (nx+1)=true:=Yp (by omega);have e6:Nat.blt 0 2=true:=rfl;have e7:Nat.blt 2 2=false:=rfl;simp only[oD,zM,n9,Ew,tO,uO,Ao,e1,e2,e3,e4,e5,e6,e7,k0,s0];rfl
theorem r7{s:List UInt8}{xs:List AV}{mem:aQ}{nx i n:Nat}(h0:lk mem 0=some (wC i n))(h1:lk mem i=some (.row 5 1 xs))(hi:2<=i)(hn:n=s.length)(hx:xs=dY s):qE 2 (OI s) (.tup []) mem nx:=by
 have e0:Nat.beq 0 i=false:=oL (by omega);have si:lk [(0,0),(i,2)] i=some 2:=by simp[lk,e0]
 exact bF (r':=.tup []) (m':=[(0,wC 2 s.length),(2,.row 5 1 (dY s))]) (n':=3) [(0,0),(i,2)] rfl
  ⟨⟨0,_,rfl,h0,uM si hn⟩,⟨i,_,si,h1,.eq (cW _) hx⟩,trivial⟩ (.same _ nn) ⟨rfl,rfl,rfl⟩
theorem UJ(s:List UInt8)(u:Nat)(hu:u<18446744073709551616)(hs:s.length<=90000000):aF prog [] 249 [.ptr 0 0 0,.int .u64 u] (wM s) 2 (OI (s++nG u)):=by
 have hul:=p8 hu;refine aD bD func249 rfl ?_;refine Rr ?_;refine aZ.at bD (fun x:Nat × List UInt8=>x.2++nG x.1=s++nG u)
  (fun x=>⟨[(0,.ptr 0 0 0),(1,.int .u64 x.1)],[(0,wC 2 x.2.length),(2,.row 5 1 (dY x.2))],3,31⟩) (fun x=>x.1) (u,s) [(0,0),(1,2)] rfl
  (aE _ rfl ⟨⟨0,_,rfl,rfl,uM rfl rfl⟩,aL 1 (cW _),trivial⟩ ⟨aG,aK,trivial⟩) ?_
 rintro⟨n,acc⟩ hx;simp only at hx;have hal:acc.length<=s.length+10:=by have:=congrArg List.length hx;simp at this;omega
 refine Rr ?_;refine aH (fun h=>?_) (fun h=>?_)
 ·have hn:¬n<128:=by simp at h;omega
  refine Rr ?_;refine aM (bT rfl rfl (dH _).symm (by simp;omega)) ?_;refine Rr ?_;rw[NL,Xj];refine .mk (n/128,acc++[UInt8.ofNat (128+n%128)]) [(0,0),(4,2)] ?_ (aE _ rfl ⟨⟨0,_,rfl,rfl,uM rfl (by simp)⟩,⟨4,_,rfl,rfl,.eq (cW _) (by rw[jV];rfl)⟩,trivial⟩ ⟨aG,aK,trivial⟩) (by simp only;omega);rw[EX hn] at hx;simpa using hx
 ·have hn:n<128:=by simp at h;omega
  refine Rr ?_;refine aM (bT rfl rfl (dH _).symm (by simp;omega)) ?_;refine Rr ?_;rw[Nb hn];rw[uD hn] at hx;exact r7 (i:=4) rfl rfl (by omega) (by rw[←hx];simp) (by rw[←hx,jV];rfl)
theorem Uu(s:List UInt8)(n:Int)(hn:i64 n)(hs:s.length<=90000000):aF prog [] 232 [.ptr 0 0 0,.int .i64 n] (wM s) 2 (OI (s++gT n)):=by
 have hU:=UJ s (Ok n) (HB hn) hs;refine aD bD func232 rfl ?_;have hz:=Px hn;unfold gT;generalize Ok n=z at hU hz ⊢;refine Rr ?_;rw[hz];refine BU 1 bD hU rfl rfl rfl rfl ?_;refine Rr ?_;exact r7 (i:=2) rfl rfl (by omega) rfl rfl
theorem Wv(s:List UInt8)(b:Bool)(hs:s.length<=90000000):aF prog [] 263 [.ptr 0 0 0,.bool b] (wM s) 2 (OI (s++[if b=true then 1 else 0])):=by
 refine aD bD func263 rfl ?_;cases b with
 | true=>
  refine Rr ?_;refine aM (bT rfl rfl (dH _).symm (by simp;omega)) ?_;refine Rr ?_;exact r7 (i:=3) rfl rfl (by omega) (by simp) (by rw[jV];rfl)
 | false=>
  refine Rr ?_;refine aM (bT rfl rfl (dH _).symm (by simp;omega)) ?_;refine Rr ?_;exact r7 (i:=3) rfl rfl (by omega) (by simp) (by rw[jV];rfl)
theorem WW(s w:List UInt8)(hs:s.length+w.length<=90000000):aF prog [] 264 [.ptr 0 0 0,.str w] (wM s) 2 (OI (s++(nG w.length++w))):=by
 have hU:=UJ s w.length (by omega) (by omega);have hul:=p8 (n:=w.length) (by omega);have hw:IntKind.u64.wrap (w.length:Int)=(w.length:Int):=AH (by omega) (by omega);generalize nG w.length=x at hU hul ⊢;refine aD bD func264 rfl ?_;refine Rr ?_;rw[hw];refine BU 1 bD hU rfl rfl rfl rfl ?_;refine Rr ?_;have e:List.map (fun b:UInt8=>AV.int IntKind.u8 (b.toNat:Int)) w=dY w:=rfl;rw[e];refine aM (bT rfl rfl (dH _).symm (by rw[dH];simp;omega)) ?_;refine Rr ?_;exact r7 (i:=3) rfl rfl (by omega) (by rw[dH];simp;omega) (by rw[←jV,List.append_assoc])
set_option maxHeartbeats 4000000
theorem PY:∀v:aR,bB v<=1099511627776->aT prog [] 73 [cN v] (.int .i64 (bB v))
 | .mk vk vn vs ks,hs=>by
  have hs':bZ ks+1<=1099511627776:=by simp only[bB] at hs;omega
  have ih:∀a∈ks,aT prog [] 73 [cN a] (.int .i64 (bB a)):=fun a hm=>PY a (by have:=GJ hm;omega)
  have hl:=xP ks;refine aD bD func73 rfl ?_;refine Rr ?_;refine aZ.at bD (fun k:Nat=>k<=ks.length)
   (fun k=>⟨[(1,.ptr 0 0 0),(3,.int .i64 (1+bZ (ks.take k):Nat)),(4,.int .i64 k)],[(0,.row 55 4 [cN (.mk vk vn vs ks)])],1,21⟩)
   (fun k=>ks.length-k) 0 [(0,0)] (by simp)
   (aE _ rfl ⟨aL 0 dI,trivial⟩ ⟨aG,aK,aK,trivial⟩) ?_
  intro k hk;refine Rr ?_;refine aH (fun h=>?_) (fun h=>?_)
  ·have hlt:=Jw h;obtain⟨a,b,c,d,hm,hg,he,e1⟩:=cO hlt;have hsz:=qV hlt;have hle:=kY ks (k+1);rw[he] at hsz;refine Rr ?_;refine aB e1 ?_;refine Rr ?_;refine(ih _ hm).go ?_;refine Rr ?_;exact .mk (k+1) [(0,0)] (by omega) (aE _ rfl ⟨aL 0 dI,trivial⟩ ⟨aG,⟨_,rfl,.wo⟩,⟨_,rfl,.wo⟩,trivial⟩) (by omega)
  ·have hk':k=ks.length:=by have:=JJ h;omega
   refine Rr ?_;refine aA nn ⟨?_,rfl,rfl⟩;rw[hk',ZB,bB]
 termination_by v=>SizeOf.sizeOf v
 decreasing_by simp;have:=aAc hm;omega
theorem Su(c:Int):aT prog [] 246 [.int .u8 c] (.bool (x8 c)):=by
 refine aD bD func246 rfl ?_;refine Rr ?_;repeat' (refine aH (fun h=>?_) (fun h=>?_)<;>((try rw[h]);refine Rr ?_))
 all_goals
  refine aA nn ⟨?_,rfl,rfl⟩;congr 1;rw[ZN];simp[x8] at *;try omega
theorem Q5(s:List UInt8)(hs:s.length<=4294967296):aT prog [] 192 [.str s] (.bool (fU s)):=by
  refine aD bD func192 rfl ?_;refine Rr ?_;refine aH (fun h=>?_) (fun h=>?_)
  · rw[h]
    refine Rr ?_;refine aA nn ⟨?_,rfl,rfl⟩;rw[wT (by simp at h;omega)]
  have h1:1<=s.length:=by simp at h;omega
  rw[h];refine Rr ?_;refine aH (fun h=>?_) (fun h=>?_)
  · rw[h]
    refine Rr ?_;refine aA nn ⟨?_,rfl,rfl⟩;rw[mS (by simp at h;omega)]
  have h2:s.length<=16:=by simp at h;omega
  rw[h];obtain⟨a,ha⟩:∃a,s[0]? = some a:=⟨s[0],by simp⟩
  refine Rr ?_;refine aB ha ?_;refine Rr ?_;refine aH (fun h=>?_) (fun h=>?_)
  · rw[h]
    refine Rr ?_;refine aA nn ⟨?_,rfl,rfl⟩;rw[lQ ha (by simp[upper] at *;omega)]
  have h3:65<=(a.toNat:Int):=by simpa using h
  rw[h];refine Rr ?_;refine aB ha ?_;refine Rr ?_;refine aH (fun h=>?_) (fun h=>?_)
  · refine Rr ?_
    refine aA nn ⟨?_,rfl,rfl⟩;rw[lQ ha (by simp[upper] at *;omega)]
  have h4:(a.toNat:Int)<=90:=by simpa using h
  refine Rr ?_;refine aZ.at bD (fun i:Nat=>i<=s.length/\∀j c,j<i->s[j]? = some c->x8 c.toNat=true)
    (fun i=>⟨[(0,.str s),(3,.int .i64 i)],[],0,64⟩) (fun i=>s.length-i) 0 [] ⟨by simp,by simp⟩
    (bL ⟨aK,aK,trivial⟩) ?_
  rintro i ⟨hi,hall⟩;refine Rr ?_;refine aH (fun h=>?_) (fun h=>?_)
  · have hlt:i<s.length:=by simpa using h
    obtain⟨c,hc⟩:∃c,s[i]? = some c:=⟨s[i],by simp[hlt]⟩
    have hc':s[(i:Int).toNat]? = some c:=by rw[Yl];exact hc
    refine Rr ?_;refine aB hc' ?_;refine Rr ?_;repeat' (refine aH (fun h=>?_) (fun h=>?_)<;>((try rw[h]);refine Rr ?_))
    all_goals first
      | (refine aA nn ⟨?_,rfl,rfl⟩
         rw[zO hc (by rw[Z7];simp[x8] at *;omega)])
      | (refine .mk (i+1) [] ⟨by omega,fun j c2 hj hc2=>?_⟩ (bL ⟨aK,⟨_,rfl,.wo⟩,trivial⟩) (by omega)
         rcases Y5 j i with hj'|hj'
         · exact hall j c2 hj' hc2
         · have hji:j=i:=by omega
           rw[hji,hc] at hc2;cases hc2;simp[x8] at *;omega)
  · refine Rr ?_
    refine aA nn ⟨?_,rfl,rfl⟩;have hk:i=s.length:=by simp at h;omega
    rw[zJ ha h2 (by simp[upper];omega) fun j c hc=>hall j c (by rw[hk];exact(Yn.1 hc).1) hc]
theorem QH(s:List UInt8)(hs:s.length<=4294967296):aT prog [] 227 [.str s] (.bool (fU s)):=by
 refine aD bD func227 rfl ?_;refine Rr ?_;refine aH (fun h=>?_) (fun h=>?_)
 ·rw[h];refine Rr ?_;refine aA nn ⟨?_,rfl,rfl⟩;rw[wT (by simp at h;rw[h];simp)]
 have h1:1<=s.length:=by
  rcases Y2 s.length with h'|h'
  ·rw[Y6 h'] at h;simp at h
  ·exact h'
 rw[h];refine Rr ?_;refine aH (fun h=>?_) (fun h=>?_)
 ·rw[h];refine Rr ?_;refine aA nn ⟨?_,rfl,rfl⟩;rw[mS (by simp at h;omega)]
 have h2:s.length<=16:=by simp at h;omega
 rw[h];obtain⟨a,ha⟩:∃a,s[0]? = some a:=⟨s[0],by simp⟩
 refine Rr ?_;refine aB ha ?_;refine Rr ?_;refine aH (fun h=>?_) (fun h=>?_)
 ·rw[h];refine Rr ?_;refine aA nn ⟨?_,rfl,rfl⟩;rw[lQ ha (by simp[upper] at *;omega)]
 have h3:65<=(a.toNat:Int):=by simpa using h
 rw[h];refine Rr ?_;refine aB ha ?_;refine Rr ?_;refine aH (fun h=>?_) (fun h=>?_)
 ·refine Rr ?_;refine aA nn ⟨?_,rfl,rfl⟩;rw[lQ ha (by simp[upper] at *;omega)]
 have h4:(a.toNat:Int)<=90:=by simpa using h
 have hua:upper a.toNat=true:=by simp[upper];omega
 refine Rr ?_;refine aZ.at bD (fun i:Nat=>1<=i/\i<=s.length/\∀j c,j<i->s[j]? = some c->x8 c.toNat=true)
  (fun i=>⟨[(0,.str s),(3,.int .i64 i)],[],0,32⟩) (fun i=>s.length-i) 1 [] ⟨by simp,h1,fun j c hj hc=>by rw[show j=0 by omega,ha] at hc;cases hc;exact IY hua⟩
  (bL ⟨aK,aK,trivial⟩) ?_
 rintro i ⟨h0,hi,hall⟩;refine Rr ?_;refine aH (fun h=>?_) (fun h=>?_)
 ·have hlt:i<s.length:=by simpa using h
  obtain⟨c,hc⟩:∃c,s[i]? = some c:=⟨s[i],by simp[hlt]⟩
  have hc':s[(i:Int).toNat]? = some c:=by rw[Yl];exact hc
  refine Rr ?_;refine aB hc' ?_;refine Rr ?_;refine(Su c.toNat).go ?_;refine Rr ?_;cases hb:x8 c.toNat with
  | false=>
   refine Rr ?_;refine aA nn ⟨?_,rfl,rfl⟩;rw[zO hc hb]
  | true=>
   refine Rr ?_;refine .mk (i+1) [] ⟨by omega,by omega,fun j c2 hj hc2=>?_⟩ (bL ⟨aK,⟨_,rfl,.wo⟩,trivial⟩) (by omega);rcases Y5 j i with hj'|hj'
   ·exact hall j c2 hj' hc2
   ·have hji:j=i:=by omega
    rw[hji,hc] at hc2;cases hc2;exact hb
 ·refine Rr ?_;refine aA nn ⟨?_,rfl,rfl⟩;have hk:i=s.length:=by simp at h;omega
  rw[zJ ha h2 hua fun j c hc=>hall j c (by rw[hk];exact(Yn.1 hc).1) hc]
set_option maxHeartbeats 4000000
theorem Sn(vk vn:Int)(vs:List UInt8)(ks:List aR)(hs:vs.length<=4294967296):aT prog [] 181 [cN (.mk vk vn vs ks)] (.bool (cT vk vn vs ks.length)):=by
 refine aD bD func181 rfl ?_;refine Rr ?_;repeat' (first|(refine aH (fun h=>?_) (fun h=>?_)<;>((try rw[h]);refine Rr ?_))|(refine(QH vs hs).go ?_;refine Rr ?_))
 all_goals
  refine aA nn ⟨?_,rfl,rfl⟩;congr 1;rw[ZN];simp_all[cT,aC,Zn,List.isEmpty_iff]
theorem Wi(vk vn:Int)(vs:List UInt8)(ks:List aR):aT prog [] 182 [cN (.mk vk vn vs ks)] (.bool (vT vk ks.length)):=by
 refine aD bD func182 rfl ?_;refine Rr ?_;repeat' (refine aH (fun h=>?_) (fun h=>?_)<;>((try rw[h]);refine Rr ?_))
 all_goals
  refine aA nn ⟨?_,rfl,rfl⟩;congr 1;rw[ZN];simp[vT,aC] at *;try omega
theorem Md:∀v:aR,g9 v->aT prog [] 130 [cN v] (.bool (bR v))
  | .mk vk vn vs ks,hv=>by
    simp only[g9] at hv;obtain⟨hv1,hv2,hv3,hv4,hv5⟩:=hv;have ih:∀a∈ks,aT prog [] 130 [cN a] (.bool (bR a)):=fun a hm=>Md a (kA hv5 a hm)
    clear hv5;refine aD bD func130 rfl ?_;refine Rr ?_;refine(Q5 vs hv3).go ?_;obtain⟨cb,hcb⟩:∃cb,cb=fU vs:=⟨_,rfl⟩
    rw[←hcb];rcases(show vk=0∨vk=1∨vk=2∨vk=3∨(vk<0∨3<vk) by omega) with rfl|rfl|rfl|rfl|hk
    · refine Rr ?_
      repeat' (refine aH (fun h=>?_) (fun h=>?_)<;>((try rw[h]);refine Rr ?_))
      all_goals first
        | (refine aA nn ⟨?_,rfl,rfl⟩
           clear ih;have hf1:cT 0 vn vs ks.length=false:=by
             rw[Z7];simp_all[cT,aC,Zr];try omega
           rw[bR,hf1];rfl)
        | (have hf1:cT 0 vn vs ks.length=true:=by
             clear ih;simp_all[cT,aC,Zr];try omega
           refine aZ.at bD (fun k:Nat=>k<=ks.length/\cS (ks.take k)=true)
             (fun k=>⟨[(1,.ptr 0 0 0),(4,.int .i64 k)],[(0,.row 55 4 [cN (.mk 0 vn vs ks)])],1,95⟩) (fun k=>ks.length-k) 0 [(0,0)] ⟨by simp,rfl⟩
             (aE _ rfl ⟨aL 0 dI,trivial⟩ ⟨aG,aK,trivial⟩) ?_
           rintro k ⟨hk,hall⟩;refine Rr ?_;refine aH (fun h=>?_) (fun h=>?_)
           · have hlt:=Jw h
             obtain⟨a,b,c,d,hm,hg,he,e1⟩:=cO hlt;have hih:=ih _ hm;obtain⟨fb,hfb⟩:∃fb,fb=bR (.mk a b c d):=⟨_,rfl⟩
             rw[←hfb] at hih;refine Rr ?_;refine aB e1 ?_;refine Rr ?_;refine hih.go ?_;cases fb with
             | false=>
               refine Rr ?_;refine aA nn ⟨?_,rfl,rfl⟩;rw[bR,oY hm hfb.symm,aAK]
             | true=>
               refine Rr ?_;refine .mk (k+1) [(0,0)] ⟨by omega, ?_⟩ (aE _ rfl ⟨aL 0 dI,trivial⟩ ⟨aG,⟨_,rfl,.wo⟩,trivial⟩) (by omega);rw[pQ hlt,hall,he,←hfb];rfl
           · have hk':k=ks.length:=by have:=JJ h;omega
             refine Rr ?_;refine aA nn ⟨?_,rfl,rfl⟩;rw[hk',ZB] at hall;rw[bR,hf1,hall];rfl)
    · refine Rr ?_
      repeat' (refine aH (fun h=>?_) (fun h=>?_)<;>((try rw[h]);refine Rr ?_))
      all_goals first
        | (refine aA nn ⟨?_,rfl,rfl⟩
           clear ih;have hf1:cT 1 vn vs ks.length=false:=by
             rw[Z7];simp_all[cT,aC,Zr];try omega
           rw[bR,hf1];rfl)
        | (have hf1:cT 1 vn vs ks.length=true:=by
             clear ih;simp_all[cT,aC,Zr];try omega
           refine aZ.at bD (fun k:Nat=>k<=ks.length/\cS (ks.take k)=true)
             (fun k=>⟨[(1,.ptr 0 0 0),(4,.int .i64 k)],[(0,.row 55 4 [cN (.mk 1 vn vs ks)])],1,95⟩) (fun k=>ks.length-k) 0 [(0,0)] ⟨by simp,rfl⟩
             (aE _ rfl ⟨aL 0 dI,trivial⟩ ⟨aG,aK,trivial⟩) ?_
           rintro k ⟨hk,hall⟩;refine Rr ?_;refine aH (fun h=>?_) (fun h=>?_)
           · have hlt:=Jw h
             obtain⟨a,b,c,d,hm,hg,he,e1⟩:=cO hlt;have hih:=ih _ hm;obtain⟨fb,hfb⟩:∃fb,fb=bR (.mk a b c d):=⟨_,rfl⟩
             rw[←hfb] at hih;refine Rr ?_;refine aB e1 ?_;refine Rr ?_;refine hih.go ?_;cases fb with
             | false=>
               refine Rr ?_;refine aA nn ⟨?_,rfl,rfl⟩;rw[bR,oY hm hfb.symm,aAK]
             | true=>
               refine Rr ?_;refine .mk (k+1) [(0,0)] ⟨by omega, ?_⟩ (aE _ rfl ⟨aL 0 dI,trivial⟩ ⟨aG,⟨_,rfl,.wo⟩,trivial⟩) (by omega);rw[pQ hlt,hall,he,←hfb];rfl
           · have hk':k=ks.length:=by have:=JJ h;omega
             refine Rr ?_;refine aA nn ⟨?_,rfl,rfl⟩;rw[hk',ZB] at hall;rw[bR,hf1,hall];rfl)
    · refine Rr ?_
      repeat' (refine aH (fun h=>?_) (fun h=>?_)<;>((try rw[h]);refine Rr ?_))
      all_goals first
        | (refine aA nn ⟨?_,rfl,rfl⟩
           clear ih;have hf1:cT 2 vn vs ks.length=false:=by
             rw[Z7];simp_all[cT];try omega
           rw[bR,hf1];rfl)
        | (have hf1:cT 2 vn vs ks.length=true:=by
             clear ih;simp_all[cT];try omega
           refine aZ.at bD (fun k:Nat=>k<=ks.length/\cS (ks.take k)=true)
             (fun k=>⟨[(1,.ptr 0 0 0),(4,.int .i64 k)],[(0,.row 55 4 [cN (.mk 2 vn vs ks)])],1,95⟩) (fun k=>ks.length-k) 0 [(0,0)] ⟨by simp,rfl⟩
             (aE _ rfl ⟨aL 0 dI,trivial⟩ ⟨aG,aK,trivial⟩) ?_
           rintro k ⟨hk,hall⟩;refine Rr ?_;refine aH (fun h=>?_) (fun h=>?_)
           · have hlt:=Jw h
             obtain⟨a,b,c,d,hm,hg,he,e1⟩:=cO hlt;have hih:=ih _ hm;obtain⟨fb,hfb⟩:∃fb,fb=bR (.mk a b c d):=⟨_,rfl⟩
             rw[←hfb] at hih;refine Rr ?_;refine aB e1 ?_;refine Rr ?_;refine hih.go ?_;cases fb with
             | false=>
               refine Rr ?_;refine aA nn ⟨?_,rfl,rfl⟩;rw[bR,oY hm hfb.symm,aAK]
             | true=>
               refine Rr ?_;refine .mk (k+1) [(0,0)] ⟨by omega, ?_⟩ (aE _ rfl ⟨aL 0 dI,trivial⟩ ⟨aG,⟨_,rfl,.wo⟩,trivial⟩) (by omega);rw[pQ hlt,hall,he,←hfb];rfl
           · have hk':k=ks.length:=by have:=JJ h;omega
             refine Rr ?_;refine aA nn ⟨?_,rfl,rfl⟩;rw[hk',ZB] at hall;rw[bR,hf1,hall];rfl)
    · refine Rr ?_
      repeat' (refine aH (fun h=>?_) (fun h=>?_)<;>((try rw[h]);refine Rr ?_))
      all_goals first
        | (refine aA nn ⟨?_,rfl,rfl⟩
           clear ih;have hf1:cT 3 vn vs ks.length=false:=by
             rw[Z7];simp_all[cT];try omega
           rw[bR,hf1];rfl)
        | (have hf1:cT 3 vn vs ks.length=true:=by
             clear ih;simp_all[cT];try omega
           refine aZ.at bD (fun k:Nat=>k<=ks.length/\cS (ks.take k)=true)
             (fun k=>⟨[(1,.ptr 0 0 0),(4,.int .i64 k)],[(0,.row 55 4 [cN (.mk 3 vn vs ks)])],1,95⟩) (fun k=>ks.length-k) 0 [(0,0)] ⟨by simp,rfl⟩
             (aE _ rfl ⟨aL 0 dI,trivial⟩ ⟨aG,aK,trivial⟩) ?_
           rintro k ⟨hk,hall⟩;refine Rr ?_;refine aH (fun h=>?_) (fun h=>?_)
           · have hlt:=Jw h
             obtain⟨a,b,c,d,hm,hg,he,e1⟩:=cO hlt;have hih:=ih _ hm;obtain⟨fb,hfb⟩:∃fb,fb=bR (.mk a b c d):=⟨_,rfl⟩
             rw[←hfb] at hih;refine Rr ?_;refine aB e1 ?_;refine Rr ?_;refine hih.go ?_;cases fb with
             | false=>
               refine Rr ?_;refine aA nn ⟨?_,rfl,rfl⟩;rw[bR,oY hm hfb.symm,aAK]
             | true=>
               refine Rr ?_;refine .mk (k+1) [(0,0)] ⟨by omega, ?_⟩ (aE _ rfl ⟨aL 0 dI,trivial⟩ ⟨aG,⟨_,rfl,.wo⟩,trivial⟩) (by omega);rw[pQ hlt,hall,he,←hfb];rfl
           · have hk':k=ks.length:=by have:=JJ h;omega
             refine Rr ?_;refine aA nn ⟨?_,rfl,rfl⟩;rw[hk',ZB] at hall;rw[bR,hf1,hall];rfl)
    · have e0:(vk == 0)=false:=by simp;omega
      have e1:(vk == 1)=false:=by simp;omega
      have e2:(vk == 2)=false:=by simp;omega
      have e3:(vk == 3)=false:=by simp;omega
      have hf1:cT vk vn vs ks.length=false:=by
        unfold cT;rw[Yo (by omega),Yo (by omega),Yo (by omega),Yo (by omega)]
      have hfin:AV.bool false=AV.bool (bR (.mk vk vn vs ks)):=by rw[bR,hf1];rfl
      refine Rr ?_;repeat((first|rw[e0]|rw[e1]|rw[e2]|rw[e3]);refine Rr ?_)
      refine aH (fun h=>?_) (fun h=>?_)
      · rw[h]
        refine Rr ?_;exact aA nn ⟨hfin,rfl,rfl⟩
      · rw[h]
        refine Rr ?_;refine aH (fun h'=>?_) (fun h'=>?_)
        · refine Rr ?_
          exact aA nn ⟨hfin,rfl,rfl⟩
        · exfalso
          simp at h h';omega
  termination_by v=>SizeOf.sizeOf v
  decreasing_by simp;have:=aAc hm;omega
theorem T2:∀v:aR,g9 v->aT prog [] 131 [cN v] (.bool (kW v))
  | .mk vk vn vs ks,hv=>by
    simp only[g9] at hv;obtain⟨hv1,hv2,hv3,hv4,hv5⟩:=hv;have ih:∀a∈ks,aT prog [] 131 [cN a] (.bool (kW a)):=fun a hm=>T2 a (kA hv5 a hm)
    clear hv5;refine aD bD func131 rfl ?_;refine Rr ?_;repeat' (refine aH (fun h=>?_) (fun h=>?_)<;>((try rw[h]);refine Rr ?_))
    all_goals first
      | (refine aA nn ⟨?_,rfl,rfl⟩
         clear ih;have hf1:A1 vk ks.length=true:=by
           simp[A1,aC] at *;omega
         rw[kW,hf1];rfl)
      | (have hf1:A1 vk ks.length=false:=by
           clear ih;rw[Z7];simp[A1,aC] at *;omega
         refine aZ.at bD (fun k:Nat=>k<=ks.length/\qP (ks.take k)=false)
           (fun k=>⟨[(1,.ptr 0 0 0),(3,.int .i64 k)],[(0,.row 55 4 [cN (.mk vk vn vs ks)])],1,39⟩) (fun k=>ks.length-k) 0 [(0,0)] ⟨by simp,rfl⟩
           (aE _ rfl ⟨aL 0 dI,trivial⟩ ⟨aG,aK,trivial⟩) ?_
         rintro k ⟨hk,hall⟩;refine Rr ?_;refine aH (fun h=>?_) (fun h=>?_)
         · have hlt:=Jw h
           obtain⟨a,b,c,d,hm,hg,he,e1⟩:=cO hlt;have hih:=ih _ hm;obtain⟨fb,hfb⟩:∃fb,fb=kW (.mk a b c d):=⟨_,rfl⟩
           rw[←hfb] at hih;refine Rr ?_;refine aB e1 ?_;refine Rr ?_;refine hih.go ?_;cases fb with
           | true=>
             refine Rr ?_;refine aA nn ⟨?_,rfl,rfl⟩;rw[kW,Fj hm hfb.symm,Bool.or_true]
           | false=>
             refine Rr ?_;refine .mk (k+1) [(0,0)] ⟨by omega, ?_⟩ (aE _ rfl ⟨aL 0 dI,trivial⟩ ⟨aG,⟨_,rfl,.wo⟩,trivial⟩) (by omega);rw[K1 hlt,hall,he,←hfb];rfl
         · have hk':k=ks.length:=by have:=JJ h;omega
           refine Rr ?_;refine aA nn ⟨?_,rfl,rfl⟩;rw[hk',ZB] at hall;rw[kW,hf1,hall];rfl)
  termination_by v=>SizeOf.sizeOf v
  decreasing_by simp;have:=aAc hm;omega
theorem Vk:∀v:aR,g9 v->bB v<=1099511627776->aT prog [] 71 [cN v] (.int .i64 (bP v))
 | .mk vk vn vs ks,hv,hs=>by
  have h1:=Md _ hv;have h2:=T2 _ hv;have h3:=PY _ hs;have hval:bP (.mk vk vn vs ks)=if bR (.mk vk vn vs ks)=false then 1 else if kW (.mk vk vn vs ks)=true∨1024<bB (.mk vk vn vs ks) then 4 else 0:=rfl
  generalize bR (.mk vk vn vs ks)=fb at h1 hval;generalize kW (.mk vk vn vs ks)=wb at h2 hval;generalize bB (.mk vk vn vs ks)=sz at h3 hval;generalize bP (.mk vk vn vs ks)=res at hval;refine aD bD func71 rfl ?_;refine Rr ?_;refine h1.go ?_;cases fb with
  | false=>
   refine Rr ?_;refine aA nn ⟨?_,rfl,rfl⟩;rw[hval];rfl
  | true=>
   refine Rr ?_;refine h2.go ?_;cases wb with
   | true=>
    refine Rr ?_;refine aA nn ⟨?_,rfl,rfl⟩;rw[hval];simp
   | false=>
    refine Rr ?_;refine h3.go ?_;refine Rr ?_;refine aH (fun h=>?_) (fun h=>?_)
    ·refine Rr ?_;refine aA nn ⟨?_,rfl,rfl⟩;rw[hval,Yo (by simp),Yt (by simp at h;omega)]
    ·refine Rr ?_;refine aA nn ⟨?_,rfl,rfl⟩;rw[hval,Yo (by simp),Yo (by simp at h;simp;omega)]
end Go.Proofs.YtidjhgajglebnaaGreatDoor
namespace Go.Proofs.YtidjhgajglebnaaGreatDoor
open Go Go.Ax Go.Proofs Tryz
set_option maxRecDepth 100000
set_option maxHeartbeats 4000000
def cI(n:Nat):AB:=.row 3 1 [.int .i64 n]
def cB(b:Bool):AB:=.row 4 1 [.bool b]
def cF(f:AV):AB:=.row 277 1 [f]
section
variable {mem:aQ} {σ:List (Nat × Nat)}
theorem JT{F:FuncId}{i:Nat}(h:lk σ i=some i):tL mem σ [.fn (.func F) [] [.ptr i 0 0]] [.fn (.func F) [] [.ptr i 0 0]]:=
 .cons (.one rfl rfl (.fn _ _ _ _ _ rfl rfl (by simp) (iB.cons (.ptr i i 0 0 h) .nil).2)) .nil
theorem uV{F:FuncId}{i j:Nat}(h:lk σ i=some i)(h':lk σ j=some j):tL mem σ [.fn (.func F) [] [.ptr i 0 0,.ptr j 0 0]] [.fn (.func F) [] [.ptr i 0 0,.ptr j 0 0]]:=
 .cons (.one rfl rfl (.fn _ _ _ _ _ rfl rfl (by simp) (iB.cons (.ptr i i 0 0 h) (.cons (.ptr j j 0 0 h') .nil)).2)) .nil
theorem D7{F:FuncId}{i j k:Nat}(h:lk σ i=some i)(h':lk σ j=some j)(h'':lk σ k=some k):tL mem σ [.fn (.func F) [] [.ptr i 0 0,.ptr j 0 0,.ptr k 0 0]] [.fn (.func F) [] [.ptr i 0 0,.ptr j 0 0,.ptr k 0 0]]:=
 .cons (.one rfl rfl (.fn _ _ _ _ _ rfl rfl (by simp) (iB.cons (.ptr i i 0 0 h) (.cons (.ptr j j 0 0 h') (.cons (.ptr k k 0 0 h'') .nil))).2)) .nil
end
def Vx(n:Nat):aQ:=[(0,cI n),(1,cF (.fn (.func 183) [] [.ptr 0 0 0])),(2,cF (.fn (.func 226) [] [.ptr 1 0 0,.ptr 2 0 0]))]
theorem Lt(g:Nat->Nat->Nat)(hg:∀n d,g n d<=max (n+1) d)
  (hsee:∀(v:aR) (d n:Nat),d<=1099511627776->n<=4398046511104->aF prog [] 183 [cN v,.int .i64 d,.ptr 0 0 0] [(0,cI n)] 1 fun r m _=>r = .bool true/\m=[(0,cI (g n d))]) :
  ∀(v:aR) (d n:Nat),d+iZ v<=1099511627776->max n (d+iZ v)+bB v<=4398046511104 ->
   aF prog [] 226 [cN v,.int .i64 d,.ptr 1 0 0,.ptr 2 0 0] (Vx n) 3 fun r m _=>r = .bool true/\m=Vx (BK g v d n)
 | .mk vk vn vs ks,d,n,hd,hb=>by
  have ih:∀a∈ks,∀(d n:Nat),d+iZ a<=1099511627776->max n (d+iZ a)+bB a<=4398046511104->aF prog [] 226 [cN a,.int .i64 d,.ptr 1 0 0,.ptr 2 0 0] (Vx n) 3 fun r m _=>r = .bool true/\m=Vx (BK g a d n):=
   fun a hm d n h1 h2=>Lt g hg hsee a d n h1 h2
  simp only[iZ,bB] at hd hb;have hlen:=xP ks;have hgn:=hg n d;refine aD bD func226 rfl ?_;refine Rr ?_;refine aF.useI bD [0] (hsee (.mk vk vn vs ks) d n (by omega) (by omega)) (by rfl) (.s (.s (.cons (.ptr 0 0 0 0 rfl) .nil))) ⟨aL 0 dI,trivial⟩ rfl ?_;rintro r m n' ⟨rfl,rfl⟩;refine⟨nn,⟨aL 0 dI,trivial⟩,rfl, ?_⟩;refine Rr ?_;refine aZ.at bD (fun k:Nat=>k<=ks.length)
   (fun k=>⟨[(1,.int .i64 d),(3,.ptr 2 0 0),(15,.il 4 (aU ks)),(16,.int .i64 (aU ks).length),(17,.int .i64 k)],Vx (wO g (ks.take k) (d+1) (g n d)),3,28⟩)
   (fun k=>ks.length-k) 0 [(0,0),(1,1),(2,2)] (by simp)
   (aE _ rfl ⟨aL 0 dI,⟨1,_,rfl,rfl,JT rfl⟩,⟨2,_,rfl,rfl,uV rfl rfl⟩,trivial⟩ ⟨aK,aG,aK,aK,aK,trivial⟩) ?_
  intro k hk;have hrl:=Hz hg (ks.take k) (d+1) (g n d);refine Rr ?_;refine aH (fun h=>?_) (fun h=>?_)
  ·have hlt:=Jw h;obtain⟨a,b,c,e,hm,hg',he,e1⟩:=cO hlt;have hst:=qV hlt;have hdt:=IZ hlt;rw[he] at hst hdt;have hst':=kY ks (k+1);have hdm:=zU hm;have hdk:gD (ks.take k)<=gD ks:=DV ks k;have hrt:=OP g hlt (d+1) (g n d);rw[he] at hrt;refine Rr ?_;refine aB e1 ?_;refine Rr ?_;rw[w64 (x:=(d:Int)+1) (y:=((d+1:Nat):Int)) (by omega) ⟨by omega,by omega⟩];refine aF.useI bD [0,1,2] (ih _ hm (d+1) (wO g (ks.take k) (d+1) (g n d)) (by omega) (by omega)) (by rfl) (.s (.s (.cons (.ptr 1 1 0 0 rfl) (.cons (.ptr 2 2 0 0 rfl) .nil))))
    ⟨aL 0 dI,⟨1,_,rfl,rfl,JT rfl⟩,⟨2,_,rfl,rfl,uV rfl rfl⟩,trivial⟩ rfl ?_
   rintro r m n' ⟨rfl,rfl⟩;refine⟨nn,⟨aL 0 dI,⟨1,_,rfl,rfl,JT rfl⟩,⟨2,_,rfl,rfl,uV rfl rfl⟩,trivial⟩,rfl, ?_⟩;rw[←hrt];refine Rr ?_;exact .mk (k+1) [(0,0),(1,1),(2,2)] (by omega)
    (aE _ rfl ⟨aL 0 dI,⟨1,_,rfl,rfl,JT rfl⟩,⟨2,_,rfl,rfl,uV rfl rfl⟩,trivial⟩ ⟨aK,aG,aK,aK,⟨_,rfl,.wo⟩,trivial⟩) (by omega)
  ·have hk':k=ks.length:=by have:=JJ h;omega
   refine Rr ?_;refine bF (n':=3) (m':=Vx (wO g (ks.take k) (d+1) (g n d))) [(0,0),(1,1),(2,2)] rfl ⟨aL 0 dI,⟨1,_,rfl,rfl,JT rfl⟩,⟨2,_,rfl,rfl,uV rfl rfl⟩,trivial⟩ (.same _ nn) ⟨rfl, ?_⟩;rw[hk',ZB,BK]
 termination_by v=>SizeOf.sizeOf v
 decreasing_by simp;have:=aAc hm;omega
end Go.Proofs.YtidjhgajglebnaaGreatDoor
namespace Go.Proofs.YtidjhgajglebnaaGreatDoor
open Go Go.Ax Go.Proofs Tryz
set_option maxRecDepth 100000
set_option maxHeartbeats 4000000
section
variable {mem:aQ} {σ:List (Nat × Nat)}
theorem Uv{F:FuncId}{i i':Nat}(h:lk σ i=some i'):tL mem σ [.fn (.func F) [] [.ptr i 0 0]] [.fn (.func F) [] [.ptr i' 0 0]]:=
 .cons (.one rfl rfl (.fn _ _ _ _ _ rfl rfl (by simp) (iB.cons (.ptr i i' 0 0 h) .nil).2)) .nil
theorem PZ{F:FuncId}{i j i' j':Nat}(h:lk σ i=some i')(h':lk σ j=some j'):tL mem σ [.fn (.func F) [] [.ptr i 0 0,.ptr j 0 0]] [.fn (.func F) [] [.ptr i' 0 0,.ptr j' 0 0]]:=
 .cons (.one rfl rfl (.fn _ _ _ _ _ rfl rfl (by simp) (iB.cons (.ptr i i' 0 0 h) (.cons (.ptr j j' 0 0 h') .nil)).2)) .nil
theorem U8{F:FuncId}{i j k i' j' k':Nat}(h:lk σ i=some i')(h':lk σ j=some j')(h'':lk σ k=some k'):tL mem σ [.fn (.func F) [] [.ptr i 0 0,.ptr j 0 0,.ptr k 0 0]] [.fn (.func F) [] [.ptr i' 0 0,.ptr j' 0 0,.ptr k' 0 0]]:=
 .cons (.one rfl rfl (.fn _ _ _ _ _ rfl rfl (by simp) (iB.cons (.ptr i i' 0 0 h) (.cons (.ptr j j' 0 0 h') (.cons (.ptr k k' 0 0 h'') .nil))).2)) .nil
theorem YH{F:FuncId}{i i':Nat}(h:lk σ i=some i'):Cv mem σ (.fn (.func F) [] [.ptr i 0 0]) (.fn (.func F) [] [.ptr i' 0 0]):=
 .fn _ _ _ _ _ rfl rfl (by simp) (iB.cons (.ptr i i' 0 0 h) .nil).2
theorem Xo{F:FuncId}{i j k i' j' k':Nat}(h:lk σ i=some i')(h':lk σ j=some j')(h'':lk σ k=some k'):Cv mem σ (.fn (.func F) [] [.ptr i 0 0,.ptr j 0 0,.ptr k 0 0]) (.fn (.func F) [] [.ptr i' 0 0,.ptr j' 0 0,.ptr k' 0 0]):=
 .fn _ _ _ _ _ rfl rfl (by simp) (iB.cons (.ptr i i' 0 0 h) (.cons (.ptr j j' 0 0 h') (.cons (.ptr k k' 0 0 h'') .nil))).2
end
theorem Xw:∀(v:aR) (d n:Nat),d<=1099511627776->n<=4398046511104->aF prog [] 183 [cN v,.int .i64 d,.ptr 0 0 0] [(0,cI n)] 1 fun r m _=>r = .bool true/\m=[(0,cI (n+1))]
 | .mk vk vn vs ks,d,n,hd,hn=>by
  refine aD bD func183 rfl ?_;refine Rr ?_;exact bF (n':=1) (m':=[(0,cI (n+1))]) [(0,0)] rfl ⟨⟨0,_,rfl,rfl,.cons (.one rfl rfl (.wo)) .nil⟩,trivial⟩ (.same _ nn) ⟨rfl,rfl⟩
theorem R1:∀(v:aR) (n:Nat),1+iZ v<=1099511627776->max n (1+iZ v)+bB v<=4398046511104 ->
   aF prog [] 179 [cN v,.fn (.func 183) [] [.ptr 0 0 0]] [(0,cI n)] 1 fun r m _=>r = .tup []/\m=[(0,cI (BK (fun n _=>n+1) v 1 n))]
 | .mk vk vn vs ks,n,hd,hb=>by
  have hw:=Lt (fun n _=>n+1) (fun n d=>by omega) Xw (.mk vk vn vs ks) 1 n hd hb;generalize BK (fun n _=>n+1) (.mk vk vn vs ks) 1 n=res at hw;refine aD bD func179 rfl ?_;refine Rr ?_;refine aF.useR bD [(0,0),(2,1),(3,2)] hw (by rfl) (.s (.cons (.int rfl) (.cons (.ptr 2 1 0 0 rfl) (.cons (.ptr 3 2 0 0 rfl) .nil))))
   ⟨aL 0 dI,⟨2,_,rfl,rfl,Uv rfl⟩,⟨3,_,rfl,rfl,PZ rfl rfl⟩,trivial⟩ rfl ?_
  rintro r m n' ⟨rfl,rfl⟩;refine⟨[(0,cI res)],nn,⟨aL 0 dI,trivial⟩,rfl, ?_⟩;refine Rr ?_;exact bF (n':=1) (m':=[(0,cI res)]) [(0,0)] rfl ⟨aL 0 dI,trivial⟩ (.same _ nn) ⟨rfl,rfl⟩
theorem WG:∀v:aR,bB v<=1048576->aT prog [] 109 [cN v] (.int .i64 (bB v))
 | .mk vk vn vs ks,hs=>by
  have hd:=rJ (.mk vk vn vs ks);have hw:=R1 (.mk vk vn vs ks) 0 (by omega) (by omega);rw[show BK (fun n _=>n+1) (.mk vk vn vs ks) 1 0=bB (.mk vk vn vs ks) by rw[J2];omega] at hw;generalize bB (.mk vk vn vs ks)=res at hw;refine aD bD func109 rfl ?_;refine Rr ?_;refine aF.useR bD [(1,0)] hw (by rfl) (.s (.cons (YH rfl) .nil)) ⟨aL 1 dI,trivial⟩ rfl ?_;rintro r m n' ⟨rfl,rfl⟩;refine⟨[(1,cI res)],nn,⟨aL 0 dI,trivial⟩,rfl, ?_⟩;refine Rr ?_;exact aA nn ⟨rfl,rfl,rfl⟩
abbrev VS:=Nat × Bool × Bool
def vC(x:VS):aQ:=[(0,cI x.1),(1,cB x.2.1),(2,cB x.2.2)]
def wV(x:VS):aQ:=[(0,cI x.1),(1,cB x.2.1),(2,cB x.2.2),(3,cF (.fn (.func 180) [] [.ptr 0 0 0,.ptr 1 0 0,.ptr 2 0 0])),(4,cF (.fn (.func 226) [] [.ptr 3 0 0,.ptr 4 0 0]))]
theorem YB(vk vn:Int)(vs:List UInt8)(ks:List aR)(hs:vs.length<=4294967296)(d:Nat)(x:VS)(hx:x.1<=4398046511104) :
  aF prog [] 180 [cN (.mk vk vn vs ks),.int .i64 d,.ptr 0 0 0,.ptr 1 0 0,.ptr 2 0 0] (vC x) 3 fun r m _=>r = .bool (dO x (.mk vk vn vs ks) d).1/\m=vC (dO x (.mk vk vn vs ks) d).2:=by
 obtain⟨n,g,s⟩:=x;have h1:=Sn vk vn vs ks hs;have h2:=Wi vk vn vs ks;have hst:dO (n,g,s) (.mk vk vn vs ks) d=(g && cT vk vn vs ks.length,(n+1,g && cT vk vn vs ks.length,s && vT vk ks.length)):=rfl;generalize cT vk vn vs ks.length=fb at h1 hst;generalize vT vk ks.length=tb at h2 hst;rw[hst];simp only at hx;refine aD bD func180 rfl ?_;cases g<;>cases s
 all_goals
  refine Rr ?_;try(refine h1.go ?_;refine Rr ?_)
  try(refine h2.go ?_;refine Rr ?_)
  exact bF (n':=3) (m':=vC (n+1,_,_)) [(0,0),(1,1),(2,2)] rfl ⟨⟨0,_,rfl,rfl,.cons (.one rfl rfl (.wo)) .nil⟩,aL 1 dI,aL 2 dI,trivial⟩ (.same _ nn) ⟨rfl,rfl⟩
theorem O3:∀(v:aR) (d:Nat) (x:VS),g9 v->d+iZ v<=1099511627776->x.1+bB v<=4398046511104 ->
   aF prog [] 226 [cN v,.int .i64 d,.ptr 3 0 0,.ptr 4 0 0] (wV x) 5 fun r m _=>r = .bool (pC dO v d x).1/\m=wV (pC dO v d x).2
 | .mk vk vn vs ks,d,x,hok,hd,hb=>by
  simp only[g9] at hok;obtain⟨hv1,hv2,hv3,hv4,hv5⟩:=hok;have ih:∀a∈ks,∀(d:Nat) (x:VS),d+iZ a<=1099511627776->x.1+bB a<=4398046511104->aF prog [] 226 [cN a,.int .i64 d,.ptr 3 0 0,.ptr 4 0 0] (wV x) 5 fun r m _=>r = .bool (pC dO a d x).1/\m=wV (pC dO a d x).2:=
   fun a hm d x h1 h2=>O3 a d x (kA hv5 a hm) h1 h2
  simp only[iZ,bB] at hd hb;have hlen:=xP ks;have hsee:=YB vk vn vs ks hv3 d x (by omega);have hy1:(dO x (.mk vk vn vs ks) d).2.1=x.1+1:=rfl;generalize hst0:dO x (.mk vk vn vs ks) d=st at hsee hy1;obtain⟨b,y⟩:=st;simp only at hy1;refine aD bD func226 rfl ?_;refine Rr ?_;refine aF.useI bD [0,1,2] hsee (by rfl) (.s (.s (.cons (.ptr 0 0 0 0 rfl) (.cons (.ptr 1 1 0 0 rfl) (.cons (.ptr 2 2 0 0 rfl) .nil))))) ⟨aL 0 dI,aL 1 dI,aL 2 dI,trivial⟩ rfl ?_;rintro r m n' ⟨rfl,rfl⟩;refine⟨nn,⟨aL 0 dI,aL 1 dI,aL 2 dI,trivial⟩,rfl, ?_⟩;cases b with
  | false=>
   refine Rr ?_;refine bF (n':=5) (m':=wV y) [(0,0),(1,1),(2,2),(3,3),(4,4)] rfl ⟨aL 0 dI,aL 1 dI,aL 2 dI,⟨3,_,rfl,rfl,D7 rfl rfl rfl⟩,⟨4,_,rfl,rfl,uV rfl rfl⟩,trivial⟩ (.same _ nn) ?_;have hvis:pC dO (.mk vk vn vs ks) d x=(false,y):=by rw[pC,hst0]
   rw[hvis];exact⟨rfl,rfl⟩
  | true=>
   have hvis:pC dO (.mk vk vn vs ks) d x=qG dO ks (d+1) y:=by rw[pC,hst0]
   refine Rr ?_;refine aZ.at bD (fun a:Nat × VS=>a.1<=ks.length/\qG dO (ks.take a.1) (d+1) y=(true,a.2))
    (fun a=>⟨[(1,.int .i64 d),(3,.ptr 4 0 0),(15,.il 4 (aU ks)),(16,.int .i64 (aU ks).length),(17,.int .i64 a.1)],wV a.2,5,28⟩)
    (fun a=>ks.length-a.1) (0,y) [(0,0),(1,1),(2,2),(3,3),(4,4)] ⟨by simp,rfl⟩
    (aE _ rfl ⟨aL 0 dI,aL 1 dI,aL 2 dI,⟨3,_,rfl,rfl,D7 rfl rfl rfl⟩,⟨4,_,rfl,rfl,uV rfl rfl⟩,trivial⟩ ⟨aK,aG,aK,aK,aK,trivial⟩) ?_
   rintro⟨k,z⟩ ⟨hk,hz⟩;simp only at hk hz;have hcnt:=E8 (ks.take k) (d+1) y;rw[hz] at hcnt;simp only at hcnt;refine Rr ?_;refine aH (fun h=>?_) (fun h=>?_)
   ·have hlt:k<ks.length:=Jw h;obtain⟨a,b,c,e,hm,hg',he,e1⟩:=cO hlt;have hst:=qV hlt;rw[he] at hst;have hst':=kY ks (k+1);have hdm:=zU hm;have hnext:=Ns dO hlt (d+1) y z hz;rw[he] at hnext;have hb2:z.1+bB (.mk a b c e)<=4398046511104:=by omega
    have hih:=ih _ hm (d+1) z (by omega) hb2;generalize pC dO (.mk a b c e) (d+1) z=st2 at hih hnext;obtain⟨b2,z2⟩:=st2;refine Rr ?_;refine aB e1 ?_;refine Rr ?_;rw[w64 (x:=(d:Int)+1) (y:=((d+1:Nat):Int)) (by omega) ⟨by omega,by omega⟩];refine aF.useI bD [0,1,2,3,4] hih (by rfl) (.s (.s (.cons (.ptr 3 3 0 0 rfl) (.cons (.ptr 4 4 0 0 rfl) .nil))))
     ⟨aL 0 dI,aL 1 dI,aL 2 dI,⟨3,_,rfl,rfl,D7 rfl rfl rfl⟩,⟨4,_,rfl,rfl,uV rfl rfl⟩,trivial⟩ rfl ?_
    rintro r m n' ⟨rfl,rfl⟩;refine⟨nn,⟨aL 0 dI,aL 1 dI,aL 2 dI,⟨3,_,rfl,rfl,D7 rfl rfl rfl⟩,⟨4,_,rfl,rfl,uV rfl rfl⟩,trivial⟩,rfl, ?_⟩;cases b2 with
    | false=>
     refine Rr ?_;refine bF (n':=5) (m':=wV z2) [(0,0),(1,1),(2,2),(3,3),(4,4)] rfl ⟨aL 0 dI,aL 1 dI,aL 2 dI,⟨3,_,rfl,rfl,D7 rfl rfl rfl⟩,⟨4,_,rfl,rfl,uV rfl rfl⟩,trivial⟩ (.same _ nn) ?_;have:=Fm dO (m:=ks.drop (k+1)) hnext;rw[List.take_append_drop] at this;rw[hvis,this];exact⟨rfl,rfl⟩
    | true=>
     refine Rr ?_;exact .mk (k+1,z2) [(0,0),(1,1),(2,2),(3,3),(4,4)] ⟨by simp only;omega,hnext⟩
      (aE _ rfl ⟨aL 0 dI,aL 1 dI,aL 2 dI,⟨3,_,rfl,rfl,D7 rfl rfl rfl⟩,⟨4,_,rfl,rfl,uV rfl rfl⟩,trivial⟩ ⟨aK,aG,aK,aK,⟨_,rfl,.wo⟩,trivial⟩) (by simp only;omega)
   ·have hk':k=ks.length:=by have:=JJ h;omega
    refine Rr ?_;refine bF (n':=5) (m':=wV z) [(0,0),(1,1),(2,2),(3,3),(4,4)] rfl ⟨aL 0 dI,aL 1 dI,aL 2 dI,⟨3,_,rfl,rfl,D7 rfl rfl rfl⟩,⟨4,_,rfl,rfl,uV rfl rfl⟩,trivial⟩ (.same _ nn) ?_;rw[hk',ZB] at hz;rw[hvis,hz];exact⟨rfl,rfl⟩
 termination_by v=>SizeOf.sizeOf v
 decreasing_by simp;have:=aAc hm;omega
theorem Ss:∀(v:aR) (x:VS),g9 v->1+iZ v<=1099511627776->x.1+bB v<=4398046511104 ->
   aF prog [] 179 [cN v,.fn (.func 180) [] [.ptr 0 0 0,.ptr 1 0 0,.ptr 2 0 0]] (vC x) 3 fun r m _=>r = .tup []/\m=vC (pC dO v 1 x).2
 | .mk vk vn vs ks,x,hok,hd,hb=>by
  have hw:=O3 (.mk vk vn vs ks) 1 x hok hd hb;generalize pC dO (.mk vk vn vs ks) 1 x=st at hw;obtain⟨b,y⟩:=st;refine aD bD func179 rfl ?_;refine Rr ?_;refine aF.useR bD [(0,0),(1,1),(2,2),(4,3),(5,4)] hw (by rfl) (.s (.cons (.int rfl) (.cons (.ptr 4 3 0 0 rfl) (.cons (.ptr 5 4 0 0 rfl) .nil))))
   ⟨aL 0 dI,aL 1 dI,aL 2 dI,⟨4,_,rfl,rfl,U8 rfl rfl rfl⟩,⟨5,_,rfl,rfl,PZ rfl rfl⟩,trivial⟩ rfl ?_
  rintro r m n' ⟨rfl,rfl⟩;refine⟨[(0,cI y.1),(1,cB y.2.1),(2,cB y.2.2)],nn,⟨aL 0 dI,aL 1 dI,aL 2 dI,trivial⟩,rfl, ?_⟩;refine Rr ?_;exact bF (n':=3) (m':=vC y) [(0,0),(1,1),(2,2)] rfl ⟨aL 0 dI,aL 1 dI,aL 2 dI,trivial⟩ (.same _ nn) ⟨rfl,rfl⟩
theorem Hm:∀v:aR,g9 v->bB v<=1048576->aT prog [] 107 [cN v] (.int .i64 (bP v))
 | .mk vk vn vs ks,hok,hs=>by
  have hd:=rJ (.mk vk vn vs ks);have hw:=Ss (.mk vk vn vs ks) (0,true,true) hok (by omega) (by simp only;omega);have hval:=OG (.mk vk vn vs ks);generalize bP (.mk vk vn vs ks)=res at hval;generalize (pC dO (.mk vk vn vs ks) 1 (0,true,true)).2=y at hw hval;obtain⟨n,g,s⟩:=y;simp only at hval;refine aD bD func107 rfl ?_;refine Rr ?_;refine aF.useR bD [(1,0),(2,1),(3,2)] hw (by rfl) (.s (.cons (Xo rfl rfl rfl) .nil)) ⟨aL 1 dI,aL 2 dI,aL 3 dI,trivial⟩ rfl ?_;rintro r m n' ⟨rfl,rfl⟩;refine⟨[(1,cI n),(2,cB g),(3,cB s)],nn,⟨aL 0 dI,aL 1 dI,aL 2 dI,trivial⟩,rfl, ?_⟩;cases g with
  | false=>
   refine Rr ?_;refine aA nn ⟨?_,rfl,rfl⟩;rw[←hval];rfl
  | true=>
   cases s with
   | false=>
    refine Rr ?_;refine aA nn ⟨?_,rfl,rfl⟩;rw[←hval];simp
   | true=>
    refine Rr ?_;refine aH (fun h=>?_) (fun h=>?_)
    ·refine Rr ?_;refine aA nn ⟨?_,rfl,rfl⟩;rw[←hval,Yo (by simp),Yt (by simp at h;omega)]
    ·refine Rr ?_;refine aA nn ⟨?_,rfl,rfl⟩;rw[←hval,Yo (by simp),Yo (by simp at h;simp;omega)]
end Go.Proofs.YtidjhgajglebnaaGreatDoor
namespace Go.Proofs.YtidjhgajglebnaaGreatDoor
open Go Go.Ax Go.Proofs Tryz
set_option maxRecDepth 100000
set_option maxHeartbeats 4000000
theorem Rk(s:List UInt8)(v1 v2:Int)(v3:List UInt8)(v4:List aR)(hn:i64 v2)(hs:s.length<=90000000):aF prog [] 250 [.ptr 0 0 0,cN (.mk v1 v2 v3 v4)] (wM s) 2 (OI (s++gT v2)):=by
 have hI:=Uu s v2 hn hs;generalize gT v2=w at hI ⊢;refine aD bD func250 rfl ?_;refine Rr ?_;refine BU 1 bD hI rfl rfl rfl rfl ?_;refine Rr ?_;exact r7 (i:=9) rfl rfl (by omega) rfl rfl
theorem Vg(s:List UInt8)(v1 v2:Int)(v3:List UInt8)(v4:List aR)(hs:s.length<=90000000):aF prog [] 251 [.ptr 0 0 0,cN (.mk v1 v2 v3 v4)] (wM s) 2 (OI (s++[if v2=1 then 1 else 0])):=by
 have hB:=Wv s (v2 == 1) hs;have e:(if (v2 == 1)=true then(1:UInt8) else 0)=if v2=1 then 1 else 0:=by simp
 rw[e] at hB;generalize (if v2=1 then(1:UInt8) else 0)=w at hB ⊢;refine aD bD func251 rfl ?_;refine Rr ?_;refine BU 1 bD hB rfl rfl rfl rfl ?_;refine Rr ?_;exact r7 (i:=10) rfl rfl (by omega) rfl rfl
theorem T8(s:List UInt8)(v1 v2:Int)(v3:List UInt8)(ks:List aR)(hok:rE ks)(hf:cS ks=true)(hs:s.length+60*bZ ks+10<=80000000)
  (ih:∀v∈ks,∀s:List UInt8,s.length+60*bB v<=80000000->aF prog [] 193 [.ptr 0 0 0,cN v] (wM s) 2 (OI (s++gR v))) :
  aF prog [] 252 [.ptr 0 0 0,cN (.mk v1 v2 v3 ks)] (wM s) 2 (OI (s++(gT ks.length++gK ks))):=by
 have hkl:=xP ks;have hI:=Uu s ks.length (C4 (by omega)) (by omega);have hil:=qL (C4 (n:=ks.length) (by omega));generalize gT ks.length=w0 at hI hil ⊢;have hlen:((aU ks).length:Int)=ks.length:=by rw[aC]
 refine aD bD func252 rfl ?_;refine Rr ?_;rw[hlen];refine BU 1 bD hI rfl rfl rfl rfl ?_;refine Rr ?_;refine aZ.at bD (fun k:Nat=>k<=ks.length)
  (fun k=>⟨[(0,.ptr 0 0 0),(14,.il 4 (aU ks)),(15,.int .i64 ks.length),(16,.int .i64 k)],[(0,wC 2 (s++(w0++gK (ks.take k))).length),(2,.row 5 1 (dY (s++(w0++gK (ks.take k)))))],3,24⟩) (fun k=>ks.length-k) 0 [(0,0),(10,2)] (by simp)
  (aE _ rfl ⟨⟨0,_,rfl,rfl,uM rfl (by simp[gK])⟩,⟨10,_,rfl,rfl,.eq (cW _) (by simp[gK])⟩,trivial⟩ ⟨aG,aK,⟨_,rfl,.int hlen⟩,aK,trivial⟩) ?_
 intro k hk;refine Rr ?_;refine aH (fun h=>?_) (fun h=>?_)
 ·have hlt:k<ks.length:=by simpa using h
  obtain⟨a,b,c,d,hm,hg,he,e1⟩:=cO hlt;have hih:=ih _ hm;have hpt:=LJ hlt;rw[he] at hpt;have hbound:=Bm (ks.take k) (M9 hok _) (FZ hf _);have hsz:=kY ks (k+1);rw[qV hlt,he] at hsz;generalize gR (.mk a b c d)=pv at hih hpt;obtain⟨pl,hpl⟩:∃pl,pl=gK (ks.take k):=⟨_,rfl⟩
  rw[←hpl] at hpt hbound ⊢;refine Rr ?_;refine aB e1 ?_;refine Rr ?_;refine BU 2 bD (hih (s++(w0++pl)) (by simp;omega)) rfl rfl rfl rfl ?_;refine Rr ?_;have hnx:s++(w0++pl)++pv=s++(w0++gK (ks.take (k+1))):=by rw[hpt];simp
  exact .mk (k+1) [(0,0),(4,2)] (by omega) (aE _ rfl ⟨⟨0,_,rfl,rfl,uM rfl (by rw[hnx])⟩,⟨4,_,rfl,rfl,.eq (cW _) (by rw[hnx])⟩,trivial⟩ ⟨aG,aK,aK,⟨_,rfl,.wo⟩,trivial⟩) (by omega)
 ·have hke:k=ks.length:=by simp at h;omega
  subst hke;rw[ZB];refine Rr ?_;exact r7 (i:=2) rfl rfl (by omega) rfl rfl
theorem XS(s:List UInt8)(v1 v2:Int)(v3:List UInt8)(ks:List aR)(hok:rE ks)(hf:cS ks=true)(hv3:v3.length<=16)(hs:s.length+60*bZ ks+40<=80000000)
  (ih:∀v∈ks,∀s:List UInt8,s.length+60*bB v<=80000000->aF prog [] 193 [.ptr 0 0 0,cN v] (wM s) 2 (OI (s++gR v))) :
  aF prog [] 253 [.ptr 0 0 0,cN (.mk v1 v2 v3 ks)] (wM s) 2 (OI (s++((nG v3.length++v3)++(gT ks.length++gK ks)))):=by
 have hT:=WW s v3 (by omega);have hul:=p8 (n:=v3.length) (by omega);have hL:=T8 (s++(nG v3.length++v3)) v1 v2 v3 ks hok hf (by simp;omega) ih;generalize nG v3.length++v3=w at hT hL ⊢;generalize gT ks.length++gK ks=w' at hL ⊢;refine aD bD func253 rfl ?_;refine Rr ?_;refine BU 1 bD hT rfl rfl rfl rfl ?_;refine Rr ?_;refine BU 9 bD hL rfl rfl rfl rfl ?_;refine Rr ?_;rw[←List.append_assoc];exact r7 (i:=10) rfl rfl (by omega) rfl rfl
def Gt:AV:=.agg [.fn (.func 250) [.ptr 0 0 0] [],.fn (.func 251) [.ptr 0 0 0] [],.fn (.func 252) [.ptr 0 0 0] [],.fn (.func 253) [.ptr 0 0 0] []]
theorem MG{mem:aQ}{σ:List (Nat × Nat)}{f:Fn}(h:lk σ 0=some 0):Cv mem σ (.fn f [.ptr 0 0 0] []) (.fn f [.ptr 0 0 0] []):=
 .fn f _ _ _ _ rfl rfl (iB.cons (.ptr 0 0 0 0 h) .nil).2 (iB.nil).2
theorem Ii{mem:aQ}{σ:List (Nat × Nat)}(h:lk σ 0=some 0):Cv mem σ Gt Gt:=.agg' (.cons (MG h) (.cons (MG h) (.cons (MG h) (.cons (MG h) .nil))))
theorem Vv(s:List UInt8):aF prog [] 233 [.ptr 0 0 0] (wM s) 2 fun r m n=>r=Gt/\m=wM s/\n=2:=by
 refine aD bD func233 rfl ?_;refine Rr ?_;exact bF (r':=Gt) (m':=wM s) (n':=2) [(0,0),(1,1)] rfl ⟨⟨0,_,rfl,rfl,uM rfl rfl⟩,aL 1 (cW _),trivial⟩ (Ii rfl) ⟨rfl,rfl,rfl⟩
theorem Qn:∀(v:aR) (s:List UInt8),g9 v->bR v=true->s.length+60*bB v<=80000000->aF prog [] 193 [.ptr 0 0 0,cN v] (wM s) 2 (OI (s++gR v))
 | .mk k n t ks,s,ho,hf,hs=>by
  simp only[g9] at ho;obtain⟨hv1,hv2,hv3,hv4,hv5⟩:=ho;simp only[bR,Yk] at hf;obtain⟨hf1,hf2⟩:=hf;simp only[bB] at hs;have ih:∀v∈ks,∀s:List UInt8,s.length+60*bB v<=80000000->aF prog [] 193 [.ptr 0 0 0,cN v] (wM s) 2 (OI (s++gR v)):=fun v hm s h=>
   Qn v s (kA hv5 v hm) (tR hf2 hm) h
  have hI:=Uu s k hv1 (by omega);have hil:=qL hv1;rw[gR];obtain⟨w0,hw0⟩:∃w0,w0=gT k:=⟨_,rfl⟩
  rw[←hw0] at hI hil ⊢;unfold cT at hf1;refine aD bD func193 rfl ?_;refine Rr ?_;refine BU 1 bD hI rfl rfl rfl rfl ?_;refine Rr ?_;refine aF.useN bD [(0,0),(9,1)] (Vv (s++w0)) rfl (.cons (.ptr 0 0 0 0 rfl) .nil) ⟨⟨0,_,rfl,rfl,uM rfl rfl⟩,aL 9 (cW _),trivial⟩ rfl ?_;rintro r m n' ⟨rfl,rfl,rfl⟩;refine⟨[(0,0),(1,9)],_,[(0,wC 9 (s++w0).length),(9,.row 5 1 (dY (s++w0)))],17,Ii rfl,⟨⟨0,_,rfl,rfl,uM rfl rfl⟩,aL 1 (cW _),trivial⟩,rfl, ?_⟩;by_cases k0:k=0
  ·subst k0;have hC:=Rk (s++w0) 0 n t ks hv2 (by simp;omega);rw[Yt rfl];generalize gT n=w at hC ⊢;refine Rt ?_;refine BU 9 bD hC rfl rfl rfl rfl ?_;refine Rr ?_;rw[←List.append_assoc];exact r7 (i:=17) rfl rfl (by omega) rfl rfl
  ·rw[Yo k0] at hf1 ⊢;by_cases k1:k=1
   ·subst k1;have hC:=Vg (s++w0) 1 n t ks (by simp;omega);rw[Yt rfl];generalize [if n=1 then(1:UInt8) else 0]=w at hC ⊢;refine Rt ?_;refine BU 9 bD hC rfl rfl rfl rfl ?_;refine Rr ?_;rw[←List.append_assoc];exact r7 (i:=17) rfl rfl (by omega) rfl rfl
   ·rw[Yo k1] at hf1 ⊢;by_cases k2:k=2
    ·subst k2;have hC:=T8 (s++w0) 2 n t ks hv5 hf2 (by simp;omega) ih;rw[Yo (by omega),ZS];generalize gT ks.length++gK ks=w at hC ⊢;refine Rt ?_;refine BU 9 bD hC rfl rfl rfl rfl ?_;refine Rr ?_;rw[←List.append_assoc];exact r7 (i:=17) rfl rfl (by omega) rfl rfl
    ·rw[Yo k2] at hf1;by_cases k3:k=3
     ·subst k3;rw[Yt rfl] at hf1 ⊢;have ht:t.length<=16:=by
       rcases Y5 16 t.length with h|h
       ·rw[mS h] at hf1;simp at hf1
       ·exact h
      have hC:=XS (s++w0) 3 n t ks hv5 hf2 ht (by simp;omega) ih;generalize nG t.length++t++(gT ks.length++gK ks)=w at hC ⊢;refine Rt ?_;refine BU 9 bD hC rfl rfl rfl rfl ?_;refine Rr ?_;rw[←List.append_assoc];exact r7 (i:=17) rfl rfl (by omega) rfl rfl
     ·rw[Yo k3] at hf1;cases hf1
theorem Wg(s:List UInt8)(hs:s.length<=90000000):aF prog [] 194 [.ptr 0 0 0] (wM s) 2 fun r m n=>r = .il 1 (dY s)/\m=[]/\n=2:=by
 refine aD bD func194 rfl ?_;refine Rr ?_;have lT:=dH s;have eT:List.take s.length (List.drop 0 (dY s))=dY s:=by rw[ZI,Yu (by rw[lT];omega)]
 refine aM (Ke (by rw[lT];omega)) ?_;rw[eT];refine Rr ?_;refine aM (bT rfl rfl rfl (by rw[lT];simp;omega)) ?_;refine Rr ?_;exact bF (r':=.il 1 (dY s)) (m':=[]) (n':=2) [] rfl trivial (.fz' rfl rfl (by simp) (by simp) (cW _)) ⟨rfl,rfl,rfl⟩
theorem Rh:∀v:aR,g9 v->bB v<=1000000->aT prog [] 132 [cN v] (.tup [if bP v=0 then .il 1 (dY (gR v)) else .nsl,.int .i64 (bP v)])
 | .mk v1 v2 v3 v4,ho,hs=>by
  have hV:=Hm (.mk v1 v2 v3 v4) ho (by omega);obtain⟨e,he⟩:∃e,e=bP (.mk v1 v2 v3 v4):=⟨_,rfl⟩
  rw[←he] at hV ⊢;refine aD bD func132 rfl ?_;refine Rr ?_;refine hV.go ?_;by_cases h0:e=0
  ·subst h0;rw[Yt rfl];have hf:=(DI he.symm).1;have hX:=Qn (.mk v1 v2 v3 v4) [] ho hf (by simp;omega);have hpl:=J3 _ ho hf;generalize gR (.mk v1 v2 v3 v4)=w at hX hpl ⊢;have hwl:w.length<=50000000:=by omega
   refine Rr ?_;refine aF.ph 5 1 ?_;refine aF.useN bD [(1,0),(2,1)] hX rfl (.cons (.ptr 1 0 0 0 rfl) (.same dI)) ⟨⟨1,_,rfl,rfl,.cons (.agg (.cons (.nslk 2 1 _ rfl rfl) .nil)) .nil⟩,aL 2 .nil,trivial⟩ rfl ?_;rintro r m n ⟨rfl,rfl,rfl⟩;rw[ZS];refine⟨[(0,1),(2,3)],_,[(1,wC 3 w.length),(3,.row 5 1 (dY w))],4,.same _ nn,⟨⟨0,_,rfl,rfl,uM rfl rfl⟩,aL 2 (cW _),trivial⟩,rfl, ?_⟩;refine Rr ?_;refine aF.useN bD [(1,0),(3,1)] (Wg w (by omega)) rfl (.cons (.ptr 1 0 0 0 rfl) .nil) ⟨⟨1,_,rfl,rfl,uM rfl rfl⟩,aL 3 (cW _),trivial⟩ rfl ?_;rintro r m n ⟨rfl,rfl,rfl⟩;refine⟨[],_,[],4,.same _ (.il' (cW _)),trivial,rfl, ?_⟩;refine Rr ?_;exact aA (.tup' (.cons (.il' (cW _)) (.cons (.int _ _) .nil))) ⟨rfl,rfl,rfl⟩
  ·have d1:(e != 0)=true:=by simpa using h0
   rw[Yo h0];refine Rr ?_;rw[d1];refine Rr ?_;exact aA nn ⟨rfl,rfl,rfl⟩
set_option maxHeartbeats 16000000
theorem fR.joinC{P:Program}{Γ:List (Nat × AV)}{B:Nat}{α:Type}{rest:Code}{Q:Exit->St->Prop}{G:Prop}(hΓ:∀p∈Γ,NN p.2)(R:α->Prop)(J:α->St)
  (h1:(∀(a:α) (s:St) (σ:List (Nat × Nat)),R a->Conv B σ s (J a)->fR P Γ B rest s Q)->G) (h2:∀a,R a->fR P Γ B rest (J a) Q):G:=h1 fun a s σ hr hc=>fR.conv hΓ hc (h2 a hr)
theorem Xc(b c:Bool)(l:List Nat):NN (.agg [.bool b,.il 1 (bX l),.bool c]):=.agg' (.cons (tB _) (.cons (tU _) (.cons (tB _) .nil)))
theorem T6{mem:aQ}{id:Nat}{A:List Nd}{L:List Key}{k:Key}(hL:∀q∈L,iC q)(hk:iC k)(hm:lk mem id=some (.mapb (rP i7 aW A L))) :
  xG prog mem 148 (.mp id) (wG k) true=some (if yB L k=true then .tup [i7 (Ix aW A k),.bool true] else .tup [.agg [.bool false,.nsl,.bool false],.bool false]):=by
 have key:(match jK prog 152 (wG k) (rP i7 aW A L) 0 with
     | some (some (_,v))=>some (AV.tup [v,.bool true])
     | some none=>some (AV.tup [.agg [.bool false,.nsl,.bool false],.bool false])
     | none=>none)=some (if yB L k=true then .tup [i7 (Ix aW A k),.bool true] else .tup [.agg [.bool false,.nsl,.bool false],.bool false]):=by
  cases h:yB L k with
  | false=>rw[BD L 0 h];rfl
  | true=>obtain⟨j,hj,-⟩:=xJ hk L 0 hL h;rw[hj];rfl
 have u:Tryz.prog.underlying 148=some (.map 152 79):=rfl;have ak:II prog 152 (wG k)=true:=by
  unfold wG;generalize FC k.2=c;rfl
 have z:oF prog 79=some (.agg [.bool false,.nsl,.bool false]):=rfl;unfold xG;simp only[u,ak,hm,z];exact key
def Ti:Code->Bool
 | .block _ _=>true
 | .seq _ b=>Ti b
 | _=>false
def EL:Code->Code
 | .seq a y=>match Ti a with
  | true=>y
  | false=>EL y
 | c=>c
def PQ(f:Func):Code:=match f.body with
 | some c=>EL c
 | none=>.skip
def SQ(A:List Nd)(o:Option Nat):AV->aQ->Nat->Prop:=fun r m k=>∃L',(∀q∈L',iC q)/\r=i7 o/\m=uU A L'/\k=2
def Xa(A:List Nd)(i:Nat):Prop:=∀(L:List Key) (v:aR),(∀q∈L,iC q)->g9 v->bB v<=1000000->aF prog [] 83 [.ptr 0 0 0,.int .i64 i,cN v] (uU A L) 2 (SQ A ((cA aW).of A i v))
def jW(A:List Nd)(i:Nat)(w:List UInt8)(res:Option Nat)(a:List Key):St:=⟨[(0,.ptr 0 0 0),(6,.ptr 2 0 0),(9,.ptr 3 0 0),(13,.ptr 4 0 0)],[(0,.row 150 8 [KH A 1]),(1,.mapb (rP i7 aW A a)),(2,.row 79 3 [.agg [.bool false,.nsl,.bool false]]),(3,.row 152 2 [.agg [.int .i64 i,.str w]]),(4,.row 79 3 [i7 res])],5,215⟩
theorem yX{A:List Nd}{i:Nat}{w:List UInt8}{res:Option Nat}{a:List Key}{s:St}{y:AV}{ia ib ic:Nat}{σ:List (Nat × Nat)}(hnt:s.nt=215)(t0:lk σ 0=some 0)(t1:lk σ 1=some 1)(ta:lk σ ia=some 2)(tb:lk σ ib=some 3)(tc:lk σ ic=some 4)(m0:lk s.mem 0=some (.row 150 8 [KH A 1]))(m1:lk s.mem 1=some (.mapb (rP i7 aW A a)))
  (m2:lk s.mem ia=some (.row 79 3 [.agg [.bool false,.nsl,.bool false]])) (m3:lk s.mem ib=some (.row 152 2 [.agg [.int .i64 i,.str w]])) (m4:lk s.mem ic=some (.row 79 3 [y]))
  (hy:C7 s.mem σ y (i7 res)) (s0:lk s.sl 0=some (.ptr 0 0 0)) (s6:lk s.sl 6=some (.ptr ia 0 0)) (s9:lk s.sl 9=some (.ptr ib 0 0)) (s13:lk s.sl 13=some (.ptr ic 0 0))
  (hc:(n9 σ && (oD (jW A i w res a).mem && (wJ 2 5 σ && Nat.ble 2 5)))=true):Conv 2 σ s (jW A i w res a):=by
 obtain⟨sl,mem,nx,nt⟩:=s;simp only at hnt m0 m1 m2 m3 m4 s0 s6 s9 s13 hy;subst hnt;exact aE _ hc ⟨⟨0,_,t0,m0,.cons (uF t1) .nil⟩,⟨1,_,t1,m1,tZ dP a⟩,⟨ia,_,ta,m2,.same (.cons (.agg' (.cons (tB _) (.cons .nsl (.cons (tB _) .nil)))) .nil)⟩,⟨ib,_,tb,m3,.same (.cons (.agg' (.cons nn (.cons nn .nil))) .nil)⟩,⟨ic,_,tc,m4,.cons hy .nil⟩,trivial⟩
  ⟨⟨_,s0,.ptr 0 0 0 0 t0⟩,⟨_,s6,.ptr ia 2 0 0 ta⟩,⟨_,s9,.ptr ib 3 0 0 tb⟩,⟨_,s13,.ptr ic 4 0 0 tc⟩,trivial⟩
theorem Ht{mem:aQ}{σ:List (Nat × Nat)}:C7 mem σ (.agg [.bool false,.nsl,.bool false]) (i7 none):=.agg (.cons (.same _ (tB _)) (.cons (.nil 1) (.cons (.same _ (tB _)) .nil)))
theorem NC{mem:aQ}{σ:List (Nat × Nat)}(n:Nat):C7 mem σ (.agg [.bool false,.il 1 (bX (dg 4294967296 n)),.bool true]) (i7 (some n)):=.agg (.cons (.same _ (tB _)) (.cons (.same _ (tU _)) (.cons (.same _ (tB _)) .nil)))
theorem Du(o:Option Nat):∃x b,i7 o = .agg [.bool false,.il 1 x,.bool b]:=by cases o<;>exact⟨_,_,rfl⟩
theorem BT{mem:aQ}{σ:List (Nat × Nat)}(x:List AV)(b:Bool)(h:NN (.agg [.bool false,.il 1 x,.bool b])):C7 mem σ (.agg [.bool false,.il 1 x,.bool b]) (.agg [.bool false,.il 1 x,.bool b]):=.same h
theorem Cy{o:Option Nat}(h:vI o):vI (Go.Ax.d9 aW (some 1) o):=by
 obtain⟨n,hn,rfl⟩:=h;rw[uK];exact⟨n,hn,rfl⟩
theorem OH(o:Option Nat):iL aW o none=o:=by cases o<;>rfl
theorem LL(o:Option Nat):Go.Ax.d9 aW o none=none:=by cases o<;>rfl
theorem JF{g a b:Option Nat}(hg:vI g)(ha:vI a)(hb:vI b)(h:vI (iL aW g (Go.Ax.d9 aW a b))):vI (Go.Ax.d9 aW a b):=by
 obtain⟨n,-,rfl⟩:=ha;obtain⟨m,-,rfl⟩:=hb;obtain⟨q,-,rfl⟩:=hg;exact h.of_plus ⟨_,i0 _ _⟩ ⟨_,rfl⟩
theorem F4{A:List Nd}{j:Nat}(ih:Xa A j){L:List Key}{v:aR}{r:AV}{mem:aQ}{nx:Nat}{K:AV->aQ->Nat->Prop}(hL:∀q∈L,iC q)(ho:g9 v)(hz:bB v<=1000000)(hp:jM [0,1] mem=uU A L)(er:i7 ((cA aW).of A j v)=r)
  (hk:∀L',(∀q∈L',iC q)->K r (uU A L'++iS [0,1] mem) nx):aF prog [] 83 [.ptr 0 0 0,.int .i64 j,cN v] mem nx K:=by
 subst er;refine aF.useI bD [0,1] (ih L v hL ho hz) hp (.cons (.ptr 0 0 0 0 rfl) (.s (.cons (.same _ (dC v)) .nil))) (dD (i:=0) (j:=1) rfl rfl rfl rfl) rfl ?_;rintro r m k ⟨L',h1,rfl,rfl,rfl⟩;exact⟨dP _,dD (i:=0) (j:=1) rfl rfl rfl rfl,rfl,hk L' h1⟩
theorem Gb{A:List Nd}{L:List Key}{a b:Option Nat}(ha:vI a)(hb:vI b)(h:vI (Go.Ax.d9 aW a b)){x y r:AV}{mem:aQ}{nx:Nat}{K:AV->aQ->Nat->Prop}(ea:i7 a=x)(eb:i7 b=y)(er:i7 (Go.Ax.d9 aW a b)=r)(hp:jM [0,1] mem=uU A L)
  (hk:K r (uU A L++iS [0,1] mem) nx):aF prog [] 81 [.ptr 0 0 0,x,y] mem nx K:=by
 subst ea eb er;refine aF.useI bD [0,1] (Vo L a b ha hb h) hp (.cons (.ptr 0 0 0 0 rfl) (.cons (.same _ (dP a)) (.cons (.same _ (dP b)) .nil))) (dD (i:=0) (j:=1) rfl rfl rfl rfl) rfl ?_;rintro r m k ⟨rfl,rfl,rfl⟩;exact⟨dP _,dD (i:=0) (j:=1) rfl rfl rfl rfl,rfl,hk⟩
theorem L9{A:List Nd}{L:List Key}{a b:Option Nat}(ha:vI a)(hb:vI b)(h:vI (iL aW a b)){x y r:AV}{mem:aQ}{nx:Nat}{K:AV->aQ->Nat->Prop}(ea:i7 a=x)(eb:i7 b=y)(er:i7 (iL aW a b)=r)(hp:jM [0,1] mem=uU A L)
  (hk:K r (uU A L++iS [0,1] mem) nx):aF prog [] 82 [.ptr 0 0 0,x,y] mem nx K:=by
 subst ea eb er;refine aF.useI bD [0,1] (WA L a b ha hb h) hp (.cons (.ptr 0 0 0 0 rfl) (.cons (.same _ (dP a)) (.cons (.same _ (dP b)) .nil))) (dD (i:=0) (j:=1) rfl rfl rfl rfl) rfl ?_;rintro r m k ⟨rfl,rfl,rfl⟩;exact⟨dP _,dD (i:=0) (j:=1) rfl rfl rfl rfl,rfl,hk⟩
def Vt(A:List Nd)(i:Nat)(w:List UInt8)(v:aR)(a:List Key)(o:Option Nat):aQ:=[(0,.row 150 8 [KH A 1]),(1,.mapb (rP i7 aW A a)),(2,.row 55 4 [cN v]),(3,.row 79 3 [.agg [.bool false,.nsl,.bool false]]),(4,.row 152 2 [.agg [.int .i64 i,.str w]]),(5,.row 79 3 [i7 o])]
theorem zR{A:List Nd}{i:Nat}{w:List UInt8}{v:aR}{a:List Key}{o:Option Nat}{mem:aQ}{σ:List (Nat × Nat)}{ib ic id ie:Nat}{y:AV}(s0:lk σ 0=some 0)(s1:lk σ 1=some 1)(sb:lk σ ib=some 2)(sc:lk σ ic=some 3)(sd:lk σ id=some 4)(se:lk σ ie=some 5)(m0:lk mem 0=some (.row 150 8 [KH A 1]))(m1:lk mem 1=some (.mapb (rP i7 aW A a)))
  (m2:lk mem ib=some (.row 55 4 [cN v])) (m3:lk mem ic=some (.row 79 3 [.agg [.bool false,.nsl,.bool false]])) (m4:lk mem id=some (.row 152 2 [.agg [.int .i64 i,.str w]])) (m5:lk mem ie=some (.row 79 3 [y])) (hy:C7 mem σ y (i7 o)):dV mem σ (Vt A i w v a o):=
 ⟨⟨0,_,s0,m0,.cons (uF s1) .nil⟩,⟨1,_,s1,m1,tZ dP a⟩,⟨ib,_,sb,m2,.same (.cons (dC v) .nil)⟩,⟨ic,_,sc,m3,.same (.cons (.agg' (.cons (tB _) (.cons .nsl (.cons (tB _) .nil)))) .nil)⟩,⟨id,_,sd,m4,.same (.cons (.agg' (.cons nn (.cons nn .nil))) .nil)⟩,⟨ie,_,se,m5,.cons hy .nil⟩,trivial⟩
theorem YQ{A:List Nd}(h:VT A)(i:Nat)(hi:i<A.length)(ih:∀j<i,Xa A j):Xa A i:=by
  intro L v hL ho hz;have hx:=bS hi;have hxm:=Yv hx;have gx:=h.node hx;have hE:=Rh v ho hz;have nv:=dC v;have hkm:=fun(k:Int) (hk:k∈(aJ A i).kids)=>fI h hx hk
  have en:(bG A)[((i:Nat):Int).toNat]? = some (cD (aJ A i)):=by simp[mM,hx]
  have nN:=aV (aJ A i);by_cases vv:bP v=0
  · rw[Yt vv,vv] at hE
    have hlk:=fun(mem:aQ) (id:Nat) (hm:lk mem id=some (.mapb (rP i7 aW A L)))=>T6 (k:=(i,some v)) hL ⟨ho,vv⟩ hm
    have hko:wG (i,some v) = .agg [.int .i64 i,.str (gR v)]:=rfl;have hvk:Ix aW A (i,some v)=(cA aW).of A i v:=rfl;rw[hko] at hlk;have hkok:iC (i,some v):=⟨ho,vv⟩
    have hfn:∀a,yB a (i,some v)=false->jK prog 152 (.agg [.int .i64 i,.str (gR v)]) (rP i7 aW A a) 0=some none:=fun a e=>BD (k:=(i,some v)) a 0 e
    have hfy:∀a,(∀q∈a,iC q)->yB a (i,some v)=true->∃j,jK prog 152 (.agg [.int .i64 i,.str (gR v)]) (rP i7 aW A a) 0=some (some (0+j,i7 ((cA aW).of A i v)))/\(rP i7 aW A a)[j]? = some (.agg [.int .i64 i,.str (gR v)],i7 ((cA aW).of A i v)):=fun a ha e=>xJ (k:=(i,some v)) hkok a 0 ha e
    have hsn:∀a,rP i7 aW A (a++[(i,some v)])=rP i7 aW A a++[(.agg [.int .i64 i,.str (gR v)],i7 ((cA aW).of A i v))]:=fun a=>H4 i7 aW A a (i,some v)
    have hss:B5 (.agg [.int .i64 i,.str (gR v)]) (.agg [.int .i64 i,.str (gR v)])=true:=E5 (i,some v);have hp:=P8 aW h hi vv;generalize gR v=w at *;obtain⟨vk,vn,vs,vks⟩:=v;have nw:NN (.il 1 (dY w)):=.il' (cW w);have tw:Go.Ax.f8 (dY w)=some w:=pL w;generalize hres:(cA aW).of A i (.mk vk vn vs vks)=res at *;cases hh:yB L (i,some (.mk vk vn vs vks)) with
    | true=>
      rw[hh,Yt rfl,hvk] at hlk;clear hp;refine aD bD func83 rfl ?_;cases res <;>
      · refine Rr ?_
        refine hE.go ?_ (.cons nv .nil) (.tup' (.cons nw (.cons nn .nil)));refine Rr ?_;repeat((first|refine b9.2 ?_|refine bO ?_|refine aB tw ?_|refine aB en ?_|refine aB (hlk _ _ rfl) ?_);refine Rr ?_)
        first
        | exact bF (n':=2) (m':=uU A L) [(0,0),(1,1)] rfl (dD (i:=0) (j:=1) rfl rfl rfl rfl) (.same _ (Xc _ _ _)) ⟨L,hL,rfl,rfl,rfl⟩
        | exact bF (n':=2) (m':=uU A L) [(0,0),(1,1)] rfl (dD (i:=0) (j:=1) rfl rfl rfl rfl) (.same _ (Xc _ _ [])) ⟨L,hL,rfl,rfl,rfl⟩
    | false=>
      rw[hh,Yo (by simp)] at hlk;have hkc:=gx.node.kind;have hyo:=(h.tin.ok _ hxm).value;have hsf:=SX h hi;have hcf:=fun h2=>SA h hi h2 (.mk vk vn vs vks)
      have hbf:=fun h4=>SO h hi h4 (.mk vk vn vs vks)
      have hov:=fun(j:Nat) (hj:j<i) (u:aR)=>PL (A:=A) h (i:=j) (by omega) u
      have hbl:=gx.node.bind;have hkl:=h.tin.klen _ hxm;have hvl0:=h.tin.vlen _ hxm;have hvv:∀u∈(aJ A i).values,g9 u/\bB u<=1000000:=fun u hu=>⟨((h.tin.ok _ hxm).valuesI u hu).1,by have:=(j8 (h.vals_valid hx hu)).2.2;omega⟩
      generalize aJ A i=x at *;obtain⟨xk,xn,xl,xh,xw,xb,xv,xc,⟨yk,yn,ys,yks⟩⟩:=x;simp only at hkc hp hkm hsf hcf hbf hbl hvv hkl hvl0;refine aD bD func83 rfl ?_;refine Rr ?_;refine hE.go ?_ (.cons nv .nil) (.tup' (.cons nw (.cons nn .nil)));refine Rr ?_;repeat((first|refine b9.2 ?_|refine bO ?_|refine aB tw ?_|refine aB en ?_|refine aB (hlk _ _ rfl) ?_);refine Rr ?_)
      refine' fR.joinC (P:=prog) (B:=2) (rest:=PQ Tryz.f83) (Q:=RD prog (Tryz.f83).results.toList (qE 2 (SQ A res))) bD (fun a:List Key=>∀q∈a,iC q) (fun a=>jW A i w res a) (fun hJ=>?_) (fun a ha=>?_)
      · refine aH (fun h=>?_) (fun h=>?_)
        · have k0:xk=0:=by simpa using h
          rw[Yt k0] at hp;have hC:=rU (.mk yk yn ys yks) (.mk vk vn vs vks) hyo;refine Rt ?_;refine hC.go ?_ (.cons (dC _) (.cons nv .nil)) nn;refine Rt ?_;by_cases e:cE (.mk yk yn ys yks) (.mk vk vn vs vks)=0
          · rw[Yt e] at hp
            rw[e]
            conv=>whnf
            refine fR.many ?_
            conv=>whnf
            refine nM.many ?_
            conv=>whnf
            refine hJ L _ [(0,0),(1,1),(3,2),(4,3),(17,4)] hL ?_;exact yX rfl rfl rfl rfl rfl rfl rfl rfl rfl rfl rfl (by rw[hp];exact NC 1) rfl rfl rfl rfl rfl
          · rw[Yo e] at hp
            rw[show (cE (.mk yk yn ys yks) (.mk vk vn vs vks) == 0)=false by simpa using e]
            conv=>whnf
            refine fR.many ?_
            conv=>whnf
            first
            | (refine hJ L _ [(0,0),(1,1),(3,2),(4,3),(17,4)] hL ?_
               exact yX rfl rfl rfl rfl rfl rfl rfl rfl rfl rfl rfl (by rw[hp];exact Ht) rfl rfl rfl rfl rfl)
        · have k0:xk≠0:=by simpa using h
          rw[Yo k0] at hp;refine Rr ?_;refine aH (fun h=>?_) (fun h=>?_)
          · have k1:xk=1:=by simpa using h
            rw[Yt k1] at hp;refine Rt ?_;have hir:BF ⟨xk,xn,xl,xh,xw,xb,xv,xc,.mk yk yn ys yks⟩ (.mk vk vn vs vks)=(decide (vk=0) && decide (xl<=vn) && decide (vn<=xh)):=rfl;rw[hir] at hp;by_cases e1:vk=0
            · rw[show (vk == 0)=true by simpa using e1]
              refine Rr ?_;by_cases e2:xl<=vn
              · rw[show decide (vn≥xl)=true by simpa using e2]
                refine Rr ?_;by_cases e3:vn<=xh
                · rw[show decide (vn<=xh)=true by simpa using e3]
                  rw[Y0 e1,Y0 e2,Y0 e3,aAS,aAS,Yt rfl] at hp;refine Rr ?_;have hO:=Vm _ (.ip' nN) (IntKind.i64.wrap (vn-xl));rw[dF] at hO;refine hO.go ?_ (.cons (.ip' nN) (.cons nn .nil)) (.agg' (.cons (tB _) (.cons (tU _) .nil)))
                  conv=>whnf
                  repeat(first|(refine hJ L _ [(0,0),(1,1),(3,2),(4,3),(17,4)] hL ?_;exact yX rfl rfl rfl rfl rfl rfl rfl rfl rfl rfl rfl (by rw[hp];exact NC 1) rfl rfl rfl rfl rfl;done)|(refine Xg ?_;conv=>whnf))
                · rw[show decide (vn<=xh)=false by simpa using e3]
                  rw[ZC e3,aAK,Yo (by simp)] at hp
                  conv=>whnf
                  repeat(first|(refine hJ L _ [(0,0),(1,1),(3,2),(4,3),(17,4)] hL ?_;exact yX rfl rfl rfl rfl rfl rfl rfl rfl rfl rfl rfl (by rw[hp];exact Ht) rfl rfl rfl rfl rfl;done)|(refine Xg ?_;conv=>whnf))
              · rw[show decide (vn≥xl)=false by simpa using e2]
                rw[ZC e2,aAK,aAL,Yo (by simp)] at hp
                conv=>whnf
                repeat(first|(refine hJ L _ [(0,0),(1,1),(3,2),(4,3),(17,4)] hL ?_;exact yX rfl rfl rfl rfl rfl rfl rfl rfl rfl rfl rfl (by rw[hp];exact Ht) rfl rfl rfl rfl rfl;done)|(refine Xg ?_;conv=>whnf))
            · rw[show (vk == 0)=false by simpa using e1]
              rw[ZC e1,aAL,aAL,Yo (by simp)] at hp
              conv=>whnf
              repeat(first|(refine hJ L _ [(0,0),(1,1),(3,2),(4,3),(17,4)] hL ?_;exact yX rfl rfl rfl rfl rfl rfl rfl rfl rfl rfl rfl (by rw[hp];exact Ht) rfl rfl rfl rfl rfl;done)|(refine Xg ?_;conv=>whnf))
          · have k1:xk≠1:=by simpa using h
            rw[Yo k1] at hp;refine Rr ?_;refine aH (fun h=>?_) (fun h=>?_)
            · have k3:xk=3:=by simpa using h
              rw[Yt k3] at hp;refine Rr ?_;have hM:=Sh ⟨xk,xn,xl,xh,xw,xb,xv,xc,.mk yk yn ys yks⟩ (.mk vk vn vs vks);refine hM.go ?_ (.cons (.ip' nN) (.cons nv .nil)) nn;cases hm:jH ⟨xk,xn,xl,xh,xw,xb,xv,xc,.mk yk yn ys yks⟩ (.mk vk vn vs vks) with
              | false=>
                rw[hm,Yo (by simp)] at hp
                conv=>whnf
                repeat(first|(refine hJ L _ [(0,0),(1,1),(3,2),(4,3),(17,4)] hL ?_;exact yX rfl rfl rfl rfl rfl rfl rfl rfl rfl rfl rfl (by rw[hp];exact Ht) rfl rfl rfl rfl rfl;done)|(refine Xg ?_;conv=>whnf))
              | true=>
                rw[hm,Yt rfl] at hp;have hvl:vks.length=xc.length:=by
                  obtain⟨q,_⟩:=(Go.Ax.t7 (x:=⟨xk,xn,xl,xh,xw,xb,xv,xc,.mk yk yn ys yks⟩)).1 hm;exact q
                have hs:=hsf k3 vks hvl;have hnx:=fun(k:Nat) (hk:k<xc.length)=>PR aW (x:=⟨xk,xn,xl,xh,xw,xb,xv,xc,.mk yk yn ys yks⟩) (of:=(cA aW).of A) (vs:=vks) hk hvl
                have hs0:Sw aW ⟨xk,xn,xl,xh,xw,xb,xv,xc,.mk yk yn ys yks⟩ ((cA aW).of A) vks 0=some 1:=rfl;rw[show jZ (.mk vk vn vs vks)=vks from rfl] at hp;simp only at hnx;generalize Sw aW ⟨xk,xn,xl,xh,xw,xb,xv,xc,.mk yk yn ys yks⟩ ((cA aW).of A) vks=G at *;have oks:=kA ho.2.2.2.2;have szs:∀u∈vks,bB u<=1000000:=fun u hu=>by have:=GJ hu;simp[bB] at hz;omega
                refine Rr ?_;refine aZ.at bD (fun p:Nat × List Key=>p.1<=xc.length/\∀q∈p.2,iC q)
                  (fun p=>⟨[(0,.ptr 0 0 0),(5,.ptr 2 0 0),(6,.ptr 3 0 0),(9,.ptr 4 0 0),(13,.ptr 5 0 0),(118,.il 1 (bH xc)),(119,.int .i64 xc.length),(120,.int .i64 p.1)],Vt A i w (.mk vk vn vs vks) p.2 (G p.1),6,215⟩)
                  (fun p=>xc.length-p.1) (0,L) [(0,0),(1,1),(2,2),(3,3),(4,4),(17,5)] ⟨Zd _,hL⟩
                  (aE _ rfl (zR (ib:=2) (ic:=3) (id:=4) (ie:=17) rfl rfl rfl rfl rfl rfl rfl rfl rfl rfl rfl rfl (by rw[hs0];exact NC 1))
                    ⟨aG,aG,aG,aG,aG,aN (.il' (bE _)),⟨_,rfl,.int (by rw[aI])⟩,aK,trivial⟩) ?_
                rintro⟨k,L1⟩ ⟨hk,hL1⟩;simp only at hk hL1 ⊢;obtain⟨x1,b1,hF1⟩:=Du (G k);have nf1:=dP (G k);rw[hF1] at nf1;unfold Vt;rw[hF1];refine Rr ?_;refine aH (fun hb=>?_) (fun hb=>?_)
                · have hlt:k<xc.length:=by simpa using hb
                  have hlt2:k<vks.length:=by omega
                  obtain⟨x2,b2,hF2⟩:=Du (G (k+1));have hsk:=hs k;have hsk1:=hs (k+1);have hnk:=hnx k hlt;have e1:(bH xc)[((k:Nat):Int).toNat]? = some (.int .i64 xc[k]):=by simp[bU,Yj hlt]
                  have e2:(aU vks)[((k:Nat):Int).toNat]? = some (cN vks[k]):=by rw[Yl,jE,Yj hlt2];rfl
                  obtain⟨q0,q1⟩:=hkm xc[k] (Y8 hlt);have ok1:=oks _ (Y8 hlt2);have sz1:=szs _ (Y8 hlt2);generalize xc[k]=q at *;generalize vks[k]=u at *;obtain⟨q,rfl⟩:=Y4 q0;rw[Yl] at q1 hnk;obtain⟨x3,b3,hF3⟩:=Du ((cA aW).of A q u);have iq:=ih q q1;obtain⟨u1,u2,u3,u4⟩:=u;refine Rr ?_;refine aB e1 ?_;refine Rr ?_;refine aB e2 ?_;refine Rr ?_;refine F4 iq hL1 ok1 sz1 rfl hF3 fun L2 hL2=>?_
                  refine Rt ?_;refine Gb (r:=.agg [.bool false,.il 1 x2,.bool b2]) hsk (hov q q1 _) (by rw[←hnk];exact hsk1) hF1 hF3 (by rw[←hnk];exact hF2) rfl ?_;refine Rt ?_;have nf2:=dP (G (k+1));rw[hF2] at nf2;exact .mk (k+1,L2) [(0,0),(1,1),(2,2),(3,3),(4,4),(5,5)] ⟨by simp only;omega,hL2⟩
                    (aE _ rfl (zR (ib:=2) (ic:=3) (id:=4) (ie:=5) rfl rfl rfl rfl rfl rfl rfl rfl rfl rfl rfl rfl (by simp only;rw[hF2];exact BT _ _ nf2))
                      ⟨aG,aG,aG,aG,aG,aN (.il' (bE _)),aK,⟨_,rfl,.int (by rw[bA ⟨by omega,by omega⟩];simp)⟩,trivial⟩) (by simp only;omega)
                · have hke:k=xc.length:=by
                    have:¬k<xc.length:=by simpa using hb
                    omega
                  conv=>whnf
                  repeat(first|(refine hJ L1 _ [(0,0),(1,1),(3,2),(4,3),(5,4)] hL1 ?_;exact yX rfl rfl rfl rfl rfl rfl rfl rfl rfl rfl rfl (by rw[hp,←hke,hF1];exact BT x1 b1 nf1) rfl rfl rfl rfl rfl;done)|(refine Xg ?_;conv=>whnf))
            · have k3:xk≠3:=by simpa using h
              rw[Yo k3] at hp;refine Rr ?_;refine aH (fun h=>?_) (fun h=>?_)
              · have k2:xk=2:=by simpa using h
                rw[Yt k2] at hp;have hs:=hcf k2;have hnx:∀(k:Nat) (hk:k<xc.length),HS aW ⟨xk,xn,xl,xh,xw,xb,xv,xc,.mk yk yn ys yks⟩ (fun q=>(cA aW).of A q (.mk vk vn vs vks)) (k+1)=iL aW (HS aW ⟨xk,xn,xl,xh,xw,xb,xv,xc,.mk yk yn ys yks⟩ (fun q=>(cA aW).of A q (.mk vk vn vs vks)) k) (Go.Ax.d9 aW (some 1) ((cA aW).of A xc[k].toNat (.mk vk vn vs vks))):=fun k hk=>Ie aW (x:=⟨xk,xn,xl,xh,xw,xb,xv,xc,.mk yk yn ys yks⟩) (al:=fun q=>(cA aW).of A q (.mk vk vn vs vks)) hk
                have hs0:HS aW ⟨xk,xn,xl,xh,xw,xb,xv,xc,.mk yk yn ys yks⟩ (fun q=>(cA aW).of A q (.mk vk vn vs vks)) 0=none:=rfl;generalize HS aW ⟨xk,xn,xl,xh,xw,xb,xv,xc,.mk yk yn ys yks⟩ (fun q=>(cA aW).of A q (.mk vk vn vs vks))=G at *;refine Rr ?_;refine aZ.at bD (fun p:Nat × List Key=>p.1<=xc.length/\∀q∈p.2,iC q)
                  (fun p=>⟨[(0,.ptr 0 0 0),(5,.ptr 2 0 0),(6,.ptr 3 0 0),(9,.ptr 4 0 0),(12,.ip (cD ⟨xk,xn,xl,xh,xw,xb,xv,xc,.mk yk yn ys yks⟩)),(13,.ptr 5 0 0),(142,.il 1 (bH xc)),(143,.int .i64 xc.length),(144,.int .i64 p.1)],Vt A i w (.mk vk vn vs vks) p.2 (G p.1),6,215⟩)
                  (fun p=>xc.length-p.1) (0,L) [(0,0),(1,1),(2,2),(3,3),(4,4),(17,5)] ⟨Zd _,hL⟩
                  (aE _ rfl (zR (ib:=2) (ic:=3) (id:=4) (ie:=17) rfl rfl rfl rfl rfl rfl rfl rfl rfl rfl rfl rfl (by rw[hs0];exact Ht))
                    ⟨aG,aG,aG,aG,aN (.ip' nN),aG,aN (.il' (bE _)),⟨_,rfl,.int (by rw[aI])⟩,aK,trivial⟩) ?_
                rintro⟨k,L1⟩ ⟨hk,hL1⟩;simp only at hk hL1 ⊢;obtain⟨x1,b1,hF1⟩:=Du (G k);have nf1:=dP (G k);rw[hF1] at nf1;unfold Vt;rw[hF1];refine Rr ?_;refine aH (fun hb=>?_) (fun hb=>?_)
                · have hlt:k<xc.length:=by simpa using hb
                  obtain⟨x2,b2,hF2⟩:=Du (G (k+1));have hsk:=hs k;have hsk1:=hs (k+1);have hnk:=hnx k hlt;have e1:(bH xc)[((k:Nat):Int).toNat]? = some (.int .i64 xc[k]):=by simp[bU,Yj hlt]
                  obtain⟨q0,q1⟩:=hkm xc[k] (Y8 hlt);generalize xc[k]=q at *;obtain⟨q,rfl⟩:=Y4 q0;rw[Yl] at q1 hnk;have hoq:=hov q q1 (.mk vk vn vs vks);obtain⟨x3,b3,hF3⟩:=Du ((cA aW).of A q (.mk vk vn vs vks));obtain⟨x4,b4,hF4⟩:=Du (Go.Ax.d9 aW (some 1) ((cA aW).of A q (.mk vk vn vs vks)));have iq:=ih q q1;refine Rr ?_;refine aB e1 ?_;refine Rr ?_;have hO:=Vm _ (.ip' nN) k;rw[dF] at hO;refine hO.go ?_ (.cons (.ip' nN) (.cons nn .nil)) (.agg' (.cons (tB _) (.cons (tU _) .nil)));refine Rt ?_;refine F4 (r:=.agg [.bool false,.il 1 x3,.bool b3]) iq hL1 ho hz rfl hF3 fun L2 hL2=>?_
                  refine Rt ?_;refine Gb (r:=.agg [.bool false,.il 1 x4,.bool b4]) (a:=some 1) ⟨1,mW _,rfl⟩ hoq (Cy hoq) rfl hF3 hF4 rfl ?_;refine Rt ?_;refine L9 (r:=.agg [.bool false,.il 1 x2,.bool b2]) hsk (Cy hoq) (by rw[←hnk];exact hsk1) hF1 hF4 (by rw[←hnk];exact hF2) rfl ?_;refine Rt ?_;have nf2:=dP (G (k+1));rw[hF2] at nf2;exact .mk (k+1,L2) [(0,0),(1,1),(2,2),(3,3),(4,4),(5,5)] ⟨by simp only;omega,hL2⟩
                    (aE _ rfl (zR (ib:=2) (ic:=3) (id:=4) (ie:=5) rfl rfl rfl rfl rfl rfl rfl rfl rfl rfl rfl rfl (by simp only;rw[hF2];exact BT _ _ nf2))
                      ⟨aG,aG,aG,aG,aN (.ip' nN),aG,aN (.il' (bE _)),aK,⟨_,rfl,.int (by rw[bA ⟨by omega,by omega⟩];simp)⟩,trivial⟩) (by simp only;omega)
                · have hke:k=xc.length:=by
                    have:¬k<xc.length:=by simpa using hb
                    omega
                  conv=>whnf
                  repeat(first|(refine hJ L1 _ [(0,0),(1,1),(3,2),(4,3),(5,4)] hL1 ?_;exact yX rfl rfl rfl rfl rfl rfl rfl rfl rfl rfl rfl (by rw[hp,←hke,hF1];exact BT x1 b1 nf1) rfl rfl rfl rfl rfl;done)|(refine Xg ?_;conv=>whnf))
              · have k2:xk≠2:=by simpa using h
                rw[Yo k2] at hp;refine Rr ?_;refine aH (fun h=>?_) (fun h=>?_)
                · have k4:xk=4:=by simpa using h
                  rw[Yt k4] at hp;have hs:=hbf k4;have hb4:=hbl k4;have hnx:∀(k:Nat) (hk:k<xv.length),Gw aW ⟨xk,xn,xl,xh,xw,xb,xv,xc,.mk yk yn ys yks⟩ ((cA aW).of A) (fun q=>(cA aW).of A q (.mk vk vn vs vks)) (k+1)=iL aW (Gw aW ⟨xk,xn,xl,xh,xw,xb,xv,xc,.mk yk yn ys yks⟩ ((cA aW).of A) (fun q=>(cA aW).of A q (.mk vk vn vs vks)) k) (Go.Ax.d9 aW ((cA aW).of A (xc.getD 0 0).toNat xv[k]) ((cA aW).of A (xc[k+1]'(by omega)).toNat (.mk vk vn vs vks))):=fun k hk=>I6 aW (x:=⟨xk,xn,xl,xh,xw,xb,xv,xc,.mk yk yn ys yks⟩) (of:=(cA aW).of A) (al:=fun q=>(cA aW).of A q (.mk vk vn vs vks)) hk hb4
                  have hs0:Gw aW ⟨xk,xn,xl,xh,xw,xb,xv,xc,.mk yk yn ys yks⟩ ((cA aW).of A) (fun q=>(cA aW).of A q (.mk vk vn vs vks)) 0=none:=rfl;generalize Gw aW ⟨xk,xn,xl,xh,xw,xb,xv,xc,.mk yk yn ys yks⟩ ((cA aW).of A) (fun q=>(cA aW).of A q (.mk vk vn vs vks))=G at *;refine Rr ?_;refine aZ.at bD (fun p:Nat × List Key=>p.1<=xv.length/\∀q∈p.2,iC q)
                    (fun p=>⟨[(0,.ptr 0 0 0),(5,.ptr 2 0 0),(6,.ptr 3 0 0),(9,.ptr 4 0 0),(12,.ip (cD ⟨xk,xn,xl,xh,xw,xb,xv,xc,.mk yk yn ys yks⟩)),(13,.ptr 5 0 0),(172,.il 4 (aU xv)),(173,.int .i64 xv.length),(174,.int .i64 p.1)],Vt A i w (.mk vk vn vs vks) p.2 (G p.1),6,215⟩)
                    (fun p=>xv.length-p.1) (0,L) [(0,0),(1,1),(2,2),(3,3),(4,4),(17,5)] ⟨Zd _,hL⟩
                    (aE _ rfl (zR (ib:=2) (ic:=3) (id:=4) (ie:=17) rfl rfl rfl rfl rfl rfl rfl rfl rfl rfl rfl rfl (by rw[hs0];exact Ht))
                      ⟨aG,aG,aG,aG,aN (.ip' nN),aG,aN (.il' (bI _)),⟨_,rfl,.int (by rw[aC])⟩,aK,trivial⟩) ?_
                  rintro⟨k,L1⟩ ⟨hk,hL1⟩;simp only at hk hL1 ⊢;obtain⟨x1,b1,hF1⟩:=Du (G k);have nf1:=dP (G k);rw[hF1] at nf1;unfold Vt;rw[hF1];refine Rr ?_;refine aH (fun hb=>?_) (fun hb=>?_)
                  · have hlt:k<xv.length:=by simpa using hb
                    have hlt2:k+1<xc.length:=by omega
                    have hlt0:0<xc.length:=by omega
                    obtain⟨x2,b2,hF2⟩:=Du (G (k+1));have nf2:=dP (G (k+1));rw[hF2] at nf2;have hsk:=hs k;have hsk1:=hs (k+1);have hnk:=hnx k hlt;have e1:(aU xv)[((k:Nat):Int).toNat]? = some (cN xv[k]):=by rw[Yl,jE,Yj hlt];rfl
                    have hwr:IntKind.i64.wrap ((k:Int)+1)=((k+1:Nat):Int):=by
                      rw[bA ⟨by omega,by omega⟩];simp
                    have e2:(bH xc)[((k+1:Nat):Int).toNat]? = some (.int .i64 xc[k+1]):=by
                      rw[Yl];simp[bU,Yj hlt2]
                    have e0:(bH xc)[(0:Int).toNat]? = some (.int .i64 (xc.getD 0 0)):=by
                      rw[show (0:Int).toNat=0 from rfl,Ym,Yj hlt0];simp[bU,Yj hlt0]
                    obtain⟨q0,q1⟩:=hkm xc[k+1] (Y8 hlt2);obtain⟨p0,p1⟩:=hkm (xc.getD 0 0) (by rw[Ym,Yj hlt0];exact Y8 hlt0);obtain⟨ok1,sz1⟩:=hvv _ (Y8 hlt);generalize xc[k+1]=q at *;generalize xc.getD 0 0=p at *;generalize xv[k]=u at *;obtain⟨q,rfl⟩:=Y4 q0;obtain⟨p,rfl⟩:=Y4 p0;rw[Yl] at q1 p1;rw[Yl,Yl] at hnk;have hoq:=hov q q1 (.mk vk vn vs vks);have hop:=hov p p1 u;have iq:=ih q q1;have ip:=ih p p1;obtain⟨x4,b4,hF4⟩:=Du ((cA aW).of A p u);obtain⟨u1,u2,u3,u4⟩:=u;cases hq:(cA aW).of A q (.mk vk vn vs vks) with
                    | none=>
                      rw[hq,LL,OH] at hnk;have hF3:i7 ((cA aW).of A q (.mk vk vn vs vks)) = .agg [.bool false,.il 1 [],.bool false]:=by rw[hq];rfl
                      rw[hnk,hF1] at hF2;refine Rr ?_;refine aB e1 ?_;refine Rr ?_;rw[hwr];refine Rr ?_;refine aB e2 ?_;refine Rr ?_;refine F4 iq hL1 ho hz rfl hF3 fun L2 hL2=>?_
                      refine Rt ?_;exact .mk (k+1,L2) [(0,0),(1,1),(2,2),(3,3),(4,4),(5,5)] ⟨by simp only;omega,hL2⟩
                        (aE _ rfl (zR (ib:=2) (ic:=3) (id:=4) (ie:=5) rfl rfl rfl rfl rfl rfl rfl rfl rfl rfl rfl rfl (by simp only;rw[hnk,hF1];exact BT _ _ nf1))
                          ⟨aG,aG,aG,aG,aN (.ip' nN),aG,aN (.il' (bI _)),aK,⟨_,rfl,.int hwr⟩,trivial⟩) (by simp only;omega)
                    | some n=>
                      have hF3:i7 ((cA aW).of A q (.mk vk vn vs vks)) = .agg [.bool false,.il 1 (bX (dg 4294967296 n)),.bool true]:=by rw[hq];rfl
                      have hpr:=JF hsk hop hoq (by rw[←hnk];exact hsk1);obtain⟨x5,b5,hF5⟩:=Du (Go.Ax.d9 aW ((cA aW).of A p (.mk u1 u2 u3 u4)) ((cA aW).of A q (.mk vk vn vs vks)));refine Rr ?_;refine aB e1 ?_;refine Rr ?_;rw[hwr];refine Rr ?_;refine aB e2 ?_;refine Rr ?_;refine F4 iq hL1 ho hz rfl hF3 fun L2 hL2=>?_
                      refine Rt ?_;refine aB e0 ?_;refine Rr ?_;refine F4 ip hL2 ok1 sz1 rfl hF4 fun L3 hL3=>?_
                      refine Rt ?_;refine Gb (r:=.agg [.bool false,.il 1 x5,.bool b5]) hop hoq hpr hF4 hF3 hF5 rfl ?_;refine Rt ?_;refine L9 (r:=.agg [.bool false,.il 1 x2,.bool b2]) hsk hpr (by rw[←hnk];exact hsk1) hF1 hF5 (by rw[←hnk];exact hF2) rfl ?_;refine Rt ?_;exact .mk (k+1,L3) [(0,0),(1,1),(2,2),(3,3),(4,4),(5,5)] ⟨by simp only;omega,hL3⟩
                        (aE _ rfl (zR (ib:=2) (ic:=3) (id:=4) (ie:=5) rfl rfl rfl rfl rfl rfl rfl rfl rfl rfl rfl rfl (by simp only;rw[hF2];exact BT _ _ nf2))
                          ⟨aG,aG,aG,aG,aN (.ip' nN),aG,aN (.il' (bI _)),aK,⟨_,rfl,.int hwr⟩,trivial⟩) (by simp only;omega)
                  · have hke:k=xv.length:=by
                      have:¬k<xv.length:=by simpa using hb
                      omega
                    conv=>whnf
                    repeat(first|(refine hJ L1 _ [(0,0),(1,1),(3,2),(4,3),(5,4)] hL1 ?_;exact yX rfl rfl rfl rfl rfl rfl rfl rfl rfl rfl rfl (by rw[hp,←hke,hF1];exact BT x1 b1 nf1) rfl rfl rfl rfl rfl;done)|(refine Xg ?_;conv=>whnf))
                · have k4:xk≠4:=by simpa using h
                  exfalso;omega
      · have nf:=dP res
        generalize hk:((i,some (aR.mk vk vn vs vks)):Key)=kk at *;cases h2:yB a kk with
        | false=>
          have hf:=hfn a h2;have hs:=hsn a;clear hfn hfy hsn hlk hp hE;unfold jW;generalize rP i7 aW A a=E at *;obtain⟨x,b,hF⟩:∃x b,i7 res = .agg [.bool false,.il 1 x,.bool b]:=by cases res<;>exact⟨_,_,rfl⟩
          rw[hF] at hs nf ⊢;refine Rr ?_;rw[hf];refine Rr ?_;refine iN.2 ?_;refine Rr ?_;first
          | (refine bF (n':=2) (m':=uU A (a++[kk])) [(0,0),(1,1)] rfl (dD (i:=0) (j:=1) rfl rfl rfl (by rw[hs];rfl)) (.same _ (by assumption)) ⟨a++[kk],fun q hq=>?_,hF.symm,rfl,rfl⟩
             rcases Yz.1 hq with hq|hq
             · exact ha q hq
             · rw[Z3.1 hq];exact hkok)
          | trace_state
        | true=>
          obtain⟨j,hj,he⟩:=hfy a ha h2;clear hfn hfy hsn hlk hp hE;unfold jW;generalize hE:rP i7 aW A a=E at *;rw[ZD] at hj;obtain⟨x,b,hF⟩:∃x b,i7 res = .agg [.bool false,.il 1 x,.bool b]:=by cases res<;>exact⟨_,_,rfl⟩
          rw[hF] at hj he nf ⊢;refine Rr ?_;rw[hj];refine Rr ?_;refine aB he ?_;refine Rr ?_;refine aM hss ?_;refine Rr ?_;refine b9.2 ?_;rw[IE he];refine Rr ?_;exact bF (n':=2) (m':=uU A a) [(0,0),(1,1)] rfl (dD (i:=0) (j:=1) rfl rfl rfl (by rw[hE];rfl)) (.same _ nf) ⟨a,ha,hF.symm,rfl,rfl⟩
  · have hn:(cA aW).of A i v=none:=by
      rw[(cA aW).of_eq h hi]
      show B9 _ _ _ _=_
      unfold B9;rw[Yt vv]
    rw[hn];rw[Yo vv] at hE;clear hn;generalize bP v=e at *;have hb:(e != 0)=true:=by simpa using vv
    obtain⟨vk,vn,vs,vks⟩:=v;refine aD bD func83 rfl ?_;refine Rr ?_;refine hE.go ?_ (.cons nv .nil) (.tup' (.cons .nsl (.cons nn .nil)));refine Rt ?_;rw[hb];refine Rt ?_;exact bF (n':=2) (m':=uU A L) [(0,0),(1,1)] rfl (dD (i:=0) (j:=1) rfl rfl rfl rfl) Hf ⟨L,hL,rfl,rfl,rfl⟩
set_option maxHeartbeats 16000000
theorem Xs{A:List Nd}(h:VT A):∀i,i<A.length->Xa A i:=by
 intro i
 induction i using Nat.strongRecOn with
 | ind i ih=>exact fun hi=>YQ h i hi fun j hj=>ih j hj (by omega)
theorem X7(x:Nd)(h1:x.kind=1)(hn:dT x=true):aT prog [] 79 [.ip (cD x)] (kC ((aW.spn x:Nat):Int)):=by
 obtain⟨r1,r2,r3,r4⟩:=cY hn;have hO:=Ws x fun _=>hn
 have ho:NT x=((aW.spn x:Nat):Int):=by
  show (if x.kind=1 then x.hi-x.lo+1 else _)=(((x.hi-x.lo+1).toNat:Nat):Int)
  rw[Yt h1];omega
 rw[ho] at hO;have hF:=QI ((aW.spn x:Nat):Int) (by
  show i64 (((x.hi-x.lo+1).toNat:Nat):Int)
  exact⟨by omega,by omega⟩)
 rw[dF] at hF ⊢;have nz:NN (.agg [.bool false,.il 1 (bX (dg 4294967296 (aW.spn x)))]):=.agg' (.cons (tB _) (.cons (tU _) .nil));have nx:=aV x;generalize aW.spn x=m at *;generalize bX (dg 4294967296 m)=z at *;generalize cD x=y at *;refine aD bD func79 rfl ?_;refine Rr ?_;refine hO.go ?_ (.cons (.ip' nx) .nil) nn;refine Rr ?_;refine hF.go ?_ (.cons nn .nil) nz;refine Rr ?_;exact aA nz ⟨rfl,rfl,rfl⟩
def Rc(A:List Nd)(i:Nat):Prop:=∀(L:List Key),(∀q∈L,iC q)->aF prog [] 37 [.ptr 0 0 0,.int .i64 i] (uU A L) 2 (SQ A ((cA aW).all A i))
theorem I8{A:List Nd}{j:Nat}(ih:Rc A j){L:List Key}{r:AV}{mem:aQ}{nx:Nat}{K:AV->aQ->Nat->Prop}(hL:∀q∈L,iC q)(hp:jM [0,1] mem=uU A L)(er:i7 ((cA aW).all A j)=r)
  (hk:∀L',(∀q∈L',iC q)->K r (uU A L'++iS [0,1] mem) nx):aF prog [] 37 [.ptr 0 0 0,.int .i64 j] mem nx K:=by
 subst er;refine aF.useI bD [0,1] (ih L hL) hp (.cons (.ptr 0 0 0 0 rfl) (.s .nil)) (dD (i:=0) (j:=1) rfl rfl rfl rfl) rfl ?_;rintro r m k ⟨L',h1,rfl,rfl,rfl⟩;exact⟨dP _,dD (i:=0) (j:=1) rfl rfl rfl rfl,rfl,hk L' h1⟩
def RS(A:List Nd)(i:Nat)(a:List Key)(o:Option Nat):aQ:=[(0,.row 150 8 [KH A 1]),(1,.mapb (rP i7 aW A a)),(2,.row 79 3 [.agg [.bool false,.nsl,.bool false]]),(3,.row 152 2 [.agg [.int .i64 i,.str []]]),(4,.row 79 3 [i7 o])]
theorem zH{A:List Nd}{i:Nat}{a:List Key}{o:Option Nat}{mem:aQ}{σ:List (Nat × Nat)}{ib ic id:Nat}{y:AV}(s0:lk σ 0=some 0)(s1:lk σ 1=some 1)(sb:lk σ ib=some 2)(sc:lk σ ic=some 3)(sd:lk σ id=some 4)(m0:lk mem 0=some (.row 150 8 [KH A 1]))(m1:lk mem 1=some (.mapb (rP i7 aW A a)))
  (m2:lk mem ib=some (.row 79 3 [.agg [.bool false,.nsl,.bool false]])) (m3:lk mem ic=some (.row 152 2 [.agg [.int .i64 i,.str []]])) (m4:lk mem id=some (.row 79 3 [y])) (hy:C7 mem σ y (i7 o)):dV mem σ (RS A i a o):=
 ⟨⟨0,_,s0,m0,.cons (uF s1) .nil⟩,⟨1,_,s1,m1,tZ dP a⟩,⟨ib,_,sb,m2,.same (.cons (.agg' (.cons (tB _) (.cons .nsl (.cons (tB _) .nil)))) .nil)⟩,⟨ic,_,sc,m3,.same (.cons (.agg' (.cons nn (.cons nn .nil))) .nil)⟩,⟨id,_,sd,m4,.cons hy .nil⟩,trivial⟩
def jA(A:List Nd)(i:Nat)(res:Option Nat)(a:List Key):St:=⟨[(0,.ptr 0 0 0),(4,.ptr 2 0 0),(5,.ptr 3 0 0),(9,.ptr 4 0 0)],RS A i a res,5,146⟩
theorem JC{A:List Nd}{i:Nat}{res:Option Nat}{a:List Key}{s:St}{y:AV}{ia ib ic:Nat}{σ:List (Nat × Nat)}(hnt:s.nt=146)(t0:lk σ 0=some 0)(t1:lk σ 1=some 1)(ta:lk σ ia=some 2)(tb:lk σ ib=some 3)(tc:lk σ ic=some 4)(m0:lk s.mem 0=some (.row 150 8 [KH A 1]))(m1:lk s.mem 1=some (.mapb (rP i7 aW A a)))
  (m2:lk s.mem ia=some (.row 79 3 [.agg [.bool false,.nsl,.bool false]])) (m3:lk s.mem ib=some (.row 152 2 [.agg [.int .i64 i,.str []]])) (m4:lk s.mem ic=some (.row 79 3 [y]))
  (hy:C7 s.mem σ y (i7 res)) (s0:lk s.sl 0=some (.ptr 0 0 0)) (s4:lk s.sl 4=some (.ptr ia 0 0)) (s5:lk s.sl 5=some (.ptr ib 0 0)) (s9:lk s.sl 9=some (.ptr ic 0 0))
  (hc:(n9 σ && (oD (jA A i res a).mem && (wJ 2 5 σ && Nat.ble 2 5)))=true):Conv 2 σ s (jA A i res a):=by
 obtain⟨sl,mem,nx,nt⟩:=s;simp only at hnt m0 m1 m2 m3 m4 s0 s4 s5 s9 hy;subst hnt;exact aE _ hc (zH t0 t1 ta tb tc m0 m1 m2 m3 m4 hy)
  ⟨⟨_,s0,.ptr 0 0 0 0 t0⟩,⟨_,s4,.ptr ia 2 0 0 ta⟩,⟨_,s5,.ptr ib 3 0 0 tb⟩,⟨_,s9,.ptr ic 4 0 0 tc⟩,trivial⟩
theorem XH{A:List Nd}(h:VT A)(i:Nat)(hi:i<A.length)(ih:∀j<i,Rc A j):Rc A i:=by
 intro L hL;have hx:=bS hi;have hxm:=Yv hx;have gx:=h.node hx;have hkm:=fun(k:Int) (hk:k∈(aJ A i).kids)=>fI h hx hk
 have en:(bG A)[((i:Nat):Int).toNat]? = some (cD (aJ A i)):=by simp[mM,hx]
 have nN:=aV (aJ A i);have hlk:=fun(mem:aQ) (id:Nat) (hm:lk mem id=some (.mapb (rP i7 aW A L)))=>T6 (k:=(i,none)) hL trivial hm
 have hko:wG (i,none) = .agg [.int .i64 i,.str []]:=rfl;have hvk:Ix aW A (i,none)=(cA aW).all A i:=rfl;rw[hko] at hlk;have hfn:∀a,yB a (i,none)=false->jK prog 152 (.agg [.int .i64 i,.str []]) (rP i7 aW A a) 0=some none:=fun a e=>BD (k:=(i,none)) a 0 e
 have hfy:∀a,(∀q∈a,iC q)->yB a (i,none)=true->∃j,jK prog 152 (.agg [.int .i64 i,.str []]) (rP i7 aW A a) 0=some (some (0+j,i7 ((cA aW).all A i)))/\(rP i7 aW A a)[j]? = some (.agg [.int .i64 i,.str []],i7 ((cA aW).all A i)):=fun a ha e=>xJ (k:=(i,none)) trivial a 0 ha e
 have hsn:∀a,rP i7 aW A (a++[(i,none)])=rP i7 aW A a++[(.agg [.int .i64 i,.str []],i7 ((cA aW).all A i))]:=fun a=>H4 i7 aW A a (i,none)
 have hss:B5 (.agg [.int .i64 i,.str []]) (.agg [.int .i64 i,.str []])=true:=E5 (i,none);have hp:=M7 aW h hi;generalize hres:(cA aW).all A i=res at *;cases hh:yB L (i,none) with
 | true=>
  rw[hh,Yt rfl,hvk] at hlk;clear hp;refine aD bD func37 rfl ?_;cases res <;>
  ·refine Rr ?_;repeat((first|refine b9.2 ?_|refine bO ?_|refine aB en ?_|refine aB (hlk _ _ rfl) ?_);refine Rr ?_)
   first
   | exact bF (n':=2) (m':=uU A L) [(0,0),(1,1)] rfl (dD (i:=0) (j:=1) rfl rfl rfl rfl) (.same _ (Xc _ _ _)) ⟨L,hL,rfl,rfl,rfl⟩
   | exact bF (n':=2) (m':=uU A L) [(0,0),(1,1)] rfl (dD (i:=0) (j:=1) rfl rfl rfl rfl) (.same _ (Xc _ _ [])) ⟨L,hL,rfl,rfl,rfl⟩
 | false=>
  rw[hh,Yo (by simp)] at hlk;have hkc:=gx.node.kind;have hsq:=Rv h hi;have hcs:=Td h hi;have hbs:=TB h hi;have hov:=fun(j:Nat) (hj:j<i) (u:aR)=>PL (A:=A) h (i:=j) (by omega) u
  have hav:=fun(j:Nat) (hj:j<i)=>R7 (A:=A) h (i:=j) (by omega)
  have hbl:=gx.node.bind;have hkl:=h.tin.klen _ hxm;have hvl0:=h.tin.vlen _ hxm;have hSp:=fun e=>X7 (aJ A i) e gx.node.num
  have hvv:∀u∈(aJ A i).values,g9 u/\bB u<=1000000:=fun u hu=>⟨((h.tin.ok _ hxm).valuesI u hu).1,by have:=(j8 (h.vals_valid hx hu)).2.2;omega⟩
  have hofc:=fun(j:Nat) (hj:j<i)=>Xs h j (by omega)
  generalize aJ A i=x at *;obtain⟨xk,xn,xl,xh,xw,xb,xv,xc,⟨yk,yn,ys,yks⟩⟩:=x;simp only at hkc hp hkm hsq hcs hbs hbl hvv hkl hvl0 hSp;refine aD bD func37 rfl ?_;refine Rr ?_;repeat((first|refine b9.2 ?_|refine bO ?_|refine aB en ?_|refine aB (hlk _ _ rfl) ?_);refine Rr ?_)
  refine' fR.joinC (P:=prog) (B:=2) (rest:=PQ Tryz.f37) (Q:=RD prog (Tryz.f37).results.toList (qE 2 (SQ A res))) bD (fun a:List Key=>∀q∈a,iC q) (fun a=>jA A i res a) (fun hJ=>?_) (fun a ha=>?_)
  ·refine aH (fun h=>?_) (fun h=>?_)
   ·have k1:xk=1:=by simpa using h
    rw[Yt k1] at hp;have hS:=hSp k1;rw[dF] at hS;refine Rr ?_;refine hS.go ?_ (.cons (.ip' nN) .nil) (.agg' (.cons (tB _) (.cons (tU _) .nil)))
    conv=>whnf
    repeat(first|(refine b9.2 ?_;conv=>whnf)|(refine bO ?_;conv=>whnf))
    repeat(first|(refine hJ L _ [(0,0),(1,1),(2,2),(3,3),(16,4)] hL ?_;exact JC rfl rfl rfl rfl rfl rfl rfl rfl rfl rfl rfl (by rw[hp];exact NC _) rfl rfl rfl rfl rfl;done)|(refine Xg ?_;conv=>whnf))
   ·have k1:xk≠1:=by simpa using h
    rw[Yo k1] at hp;refine Rr ?_;refine aH (fun h=>?_) (fun h=>?_)
    ·have k3:xk=3:=by simpa using h
     rw[Yt k3] at hp;have hs:=hsq k3;have hnx:∀(k:Nat) (hk:k<xc.length),QC aW ⟨xk,xn,xl,xh,xw,xb,xv,xc,.mk yk yn ys yks⟩ ((cA aW).all A) (k+1)=Go.Ax.d9 aW (QC aW ⟨xk,xn,xl,xh,xw,xb,xv,xc,.mk yk yn ys yks⟩ ((cA aW).all A) k) ((cA aW).all A xc[k].toNat):=fun k hk=>QO aW (x:=⟨xk,xn,xl,xh,xw,xb,xv,xc,.mk yk yn ys yks⟩) (al:=((cA aW).all A)) hk
     have hs0:QC aW ⟨xk,xn,xl,xh,xw,xb,xv,xc,.mk yk yn ys yks⟩ ((cA aW).all A) 0=some 1:=rfl;generalize QC aW ⟨xk,xn,xl,xh,xw,xb,xv,xc,.mk yk yn ys yks⟩ ((cA aW).all A)=G at *;refine Rr ?_;refine aZ.at bD (fun p:Nat × List Key=>p.1<=xc.length/\∀q∈p.2,iC q)
      (fun p=>⟨[(0,.ptr 0 0 0),(4,.ptr 2 0 0),(5,.ptr 3 0 0),(9,.ptr 4 0 0),(58,.il 1 (bH xc)),(59,.int .i64 xc.length),(60,.int .i64 p.1)],RS A i p.2 (G p.1),5,146⟩)
      (fun p=>xc.length-p.1) (0,L) [(0,0),(1,1),(2,2),(3,3),(16,4)] ⟨Zd _,hL⟩
      (aE _ rfl (zH (ib:=2) (ic:=3) (id:=16) rfl rfl rfl rfl rfl rfl rfl rfl rfl rfl (by rw[hs0];exact NC 1))
       ⟨aG,aG,aG,aG,aN (.il' (bE _)),⟨_,rfl,.int (by rw[aI])⟩,aK,trivial⟩) ?_
     rintro⟨k,L1⟩ ⟨hk,hL1⟩;simp only at hk hL1 ⊢;obtain⟨x1,b1,hF1⟩:=Du (G k);have nf1:=dP (G k);rw[hF1] at nf1;unfold RS;rw[hF1];refine Rr ?_;refine aH (fun hb=>?_) (fun hb=>?_)
     ·have hlt:k<xc.length:=by simpa using hb
      obtain⟨x2,b2,hF2⟩:=Du (G (k+1));have hsk:=hs k;have hsk1:=hs (k+1);have hnk:=hnx k hlt;have e1:(bH xc)[((k:Nat):Int).toNat]? = some (.int .i64 xc[k]):=by simp[bU,Yj hlt]
      obtain⟨q0,q1⟩:=hkm xc[k] (Y8 hlt);generalize xc[k]=q at *;obtain⟨q,rfl⟩:=Y4 q0;rw[Yl] at q1 hnk;obtain⟨x3,b3,hF3⟩:=Du ((cA aW).all A q);have iq:=ih q q1;refine Rr ?_;refine aB e1 ?_;refine Rr ?_;refine I8 iq hL1 rfl hF3 fun L2 hL2=>?_
      refine Rt ?_;refine Gb (r:=.agg [.bool false,.il 1 x2,.bool b2]) hsk (hav q q1) (by rw[←hnk];exact hsk1) hF1 hF3 (by rw[←hnk];exact hF2) rfl ?_;refine Rt ?_;have nf2:=dP (G (k+1));rw[hF2] at nf2;exact .mk (k+1,L2) [(0,0),(1,1),(2,2),(3,3),(4,4)] ⟨by simp only;omega,hL2⟩
       (aE _ rfl (zH (ib:=2) (ic:=3) (id:=4) rfl rfl rfl rfl rfl rfl rfl rfl rfl rfl (by simp only;rw[hF2];exact BT _ _ nf2))
        ⟨aG,aG,aG,aG,aN (.il' (bE _)),aK,⟨_,rfl,.int (by rw[bA ⟨by omega,by omega⟩];simp)⟩,trivial⟩) (by simp only;omega)
     ·have hke:k=xc.length:=by
       have:¬k<xc.length:=by simpa using hb
       omega
      conv=>whnf
      repeat(first|(refine hJ L1 _ [(0,0),(1,1),(2,2),(3,3),(4,4)] hL1 ?_;exact JC rfl rfl rfl rfl rfl rfl rfl rfl rfl rfl rfl (by rw[hp,←hke,hF1];exact BT x1 b1 nf1) rfl rfl rfl rfl rfl;done)|(refine Xg ?_;conv=>whnf))
    ·have k3:xk≠3:=by simpa using h
     rw[Yo k3] at hp;refine Rr ?_;refine aH (fun h=>?_) (fun h=>?_)
     ·have k2:xk=2:=by simpa using h
      rw[Yt k2] at hp;have hs:=hcs k2;have hnx:∀(k:Nat) (hk:k<xc.length),HS aW ⟨xk,xn,xl,xh,xw,xb,xv,xc,.mk yk yn ys yks⟩ ((cA aW).all A) (k+1)=iL aW (HS aW ⟨xk,xn,xl,xh,xw,xb,xv,xc,.mk yk yn ys yks⟩ ((cA aW).all A) k) (Go.Ax.d9 aW (some 1) ((cA aW).all A xc[k].toNat)):=fun k hk=>Ie aW (x:=⟨xk,xn,xl,xh,xw,xb,xv,xc,.mk yk yn ys yks⟩) (al:=((cA aW).all A)) hk
      have hs0:HS aW ⟨xk,xn,xl,xh,xw,xb,xv,xc,.mk yk yn ys yks⟩ ((cA aW).all A) 0=none:=rfl;generalize HS aW ⟨xk,xn,xl,xh,xw,xb,xv,xc,.mk yk yn ys yks⟩ ((cA aW).all A)=G at *;refine Rt ?_;refine aZ.at bD (fun p:Nat × List Key=>p.1<=xc.length/\∀q∈p.2,iC q)
       (fun p=>⟨[(0,.ptr 0 0 0),(4,.ptr 2 0 0),(5,.ptr 3 0 0),(8,.ip (cD ⟨xk,xn,xl,xh,xw,xb,xv,xc,.mk yk yn ys yks⟩)),(9,.ptr 4 0 0),(77,.il 1 (bH xc)),(78,.int .i64 xc.length),(79,.int .i64 p.1)],RS A i p.2 (G p.1),5,146⟩)
       (fun p=>xc.length-p.1) (0,L) [(0,0),(1,1),(2,2),(3,3),(16,4)] ⟨Zd _,hL⟩
       (aE _ rfl (zH (ib:=2) (ic:=3) (id:=16) rfl rfl rfl rfl rfl rfl rfl rfl rfl rfl (by rw[hs0];exact Ht))
        ⟨aG,aG,aG,aN (.ip' nN),aG,aN (.il' (bE _)),⟨_,rfl,.int (by rw[aI])⟩,aK,trivial⟩) ?_
      rintro⟨k,L1⟩ ⟨hk,hL1⟩;simp only at hk hL1 ⊢;obtain⟨x1,b1,hF1⟩:=Du (G k);have nf1:=dP (G k);rw[hF1] at nf1;unfold RS;rw[hF1];refine Rr ?_;refine aH (fun hb=>?_) (fun hb=>?_)
      ·have hlt:k<xc.length:=by simpa using hb
       obtain⟨x2,b2,hF2⟩:=Du (G (k+1));have hsk:=hs k;have hsk1:=hs (k+1);have hnk:=hnx k hlt;have e1:(bH xc)[((k:Nat):Int).toNat]? = some (.int .i64 xc[k]):=by simp[bU,Yj hlt]
       obtain⟨q0,q1⟩:=hkm xc[k] (Y8 hlt);generalize xc[k]=q at *;obtain⟨q,rfl⟩:=Y4 q0;rw[Yl] at q1 hnk;have hoq:=hav q q1;obtain⟨x3,b3,hF3⟩:=Du ((cA aW).all A q);obtain⟨x4,b4,hF4⟩:=Du (Go.Ax.d9 aW (some 1) ((cA aW).all A q));have iq:=ih q q1;refine Rr ?_;refine aB e1 ?_;refine Rr ?_;have hO:=Vm _ (.ip' nN) k;rw[dF] at hO;refine hO.go ?_ (.cons (.ip' nN) (.cons nn .nil)) (.agg' (.cons (tB _) (.cons (tU _) .nil)));refine Rt ?_;refine I8 (r:=.agg [.bool false,.il 1 x3,.bool b3]) iq hL1 rfl hF3 fun L2 hL2=>?_
       refine Rt ?_;refine Gb (r:=.agg [.bool false,.il 1 x4,.bool b4]) (a:=some 1) ⟨1,mW _,rfl⟩ hoq (Cy hoq) rfl hF3 hF4 rfl ?_;refine Rt ?_;refine L9 (r:=.agg [.bool false,.il 1 x2,.bool b2]) hsk (Cy hoq) (by rw[←hnk];exact hsk1) hF1 hF4 (by rw[←hnk];exact hF2) rfl ?_;refine Rt ?_;have nf2:=dP (G (k+1));rw[hF2] at nf2;exact .mk (k+1,L2) [(0,0),(1,1),(2,2),(3,3),(4,4)] ⟨by simp only;omega,hL2⟩
        (aE _ rfl (zH (ib:=2) (ic:=3) (id:=4) rfl rfl rfl rfl rfl rfl rfl rfl rfl rfl (by simp only;rw[hF2];exact BT _ _ nf2))
         ⟨aG,aG,aG,aN (.ip' nN),aG,aN (.il' (bE _)),aK,⟨_,rfl,.int (by rw[bA ⟨by omega,by omega⟩];simp)⟩,trivial⟩) (by simp only;omega)
      ·have hke:k=xc.length:=by
        have:¬k<xc.length:=by simpa using hb
        omega
       conv=>whnf
       repeat(first|(refine hJ L1 _ [(0,0),(1,1),(2,2),(3,3),(4,4)] hL1 ?_;exact JC rfl rfl rfl rfl rfl rfl rfl rfl rfl rfl rfl (by rw[hp,←hke,hF1];exact BT x1 b1 nf1) rfl rfl rfl rfl rfl;done)|(refine Xg ?_;conv=>whnf))
     ·have k2:xk≠2:=by simpa using h
      rw[Yo k2] at hp;refine Rr ?_;refine aH (fun h=>?_) (fun h=>?_)
      ·have k4:xk=4:=by simpa using h
       rw[Yt k4] at hp;have hs:=hbs k4;have hb4:=hbl k4;have hnx:∀(k:Nat) (hk:k<xv.length),Gw aW ⟨xk,xn,xl,xh,xw,xb,xv,xc,.mk yk yn ys yks⟩ ((cA aW).of A) ((cA aW).all A) (k+1)=iL aW (Gw aW ⟨xk,xn,xl,xh,xw,xb,xv,xc,.mk yk yn ys yks⟩ ((cA aW).of A) ((cA aW).all A) k) (Go.Ax.d9 aW ((cA aW).of A (xc.getD 0 0).toNat xv[k]) ((cA aW).all A (xc[k+1]'(by omega)).toNat)):=fun k hk=>I6 aW (x:=⟨xk,xn,xl,xh,xw,xb,xv,xc,.mk yk yn ys yks⟩) (of:=((cA aW).of A)) (al:=((cA aW).all A)) hk hb4
       have hs0:Gw aW ⟨xk,xn,xl,xh,xw,xb,xv,xc,.mk yk yn ys yks⟩ ((cA aW).of A) ((cA aW).all A) 0=none:=rfl;generalize Gw aW ⟨xk,xn,xl,xh,xw,xb,xv,xc,.mk yk yn ys yks⟩ ((cA aW).of A) ((cA aW).all A)=G at *;refine Rt ?_;refine aZ.at bD (fun p:Nat × List Key=>p.1<=xv.length/\∀q∈p.2,iC q)
        (fun p=>⟨[(0,.ptr 0 0 0),(4,.ptr 2 0 0),(5,.ptr 3 0 0),(8,.ip (cD ⟨xk,xn,xl,xh,xw,xb,xv,xc,.mk yk yn ys yks⟩)),(9,.ptr 4 0 0),(107,.il 4 (aU xv)),(108,.int .i64 xv.length),(109,.int .i64 p.1)],RS A i p.2 (G p.1),5,146⟩)
        (fun p=>xv.length-p.1) (0,L) [(0,0),(1,1),(2,2),(3,3),(16,4)] ⟨Zd _,hL⟩
        (aE _ rfl (zH (ib:=2) (ic:=3) (id:=16) rfl rfl rfl rfl rfl rfl rfl rfl rfl rfl (by rw[hs0];exact Ht))
         ⟨aG,aG,aG,aN (.ip' nN),aG,aN (.il' (bI _)),⟨_,rfl,.int (by rw[aC])⟩,aK,trivial⟩) ?_
       rintro⟨k,L1⟩ ⟨hk,hL1⟩;simp only at hk hL1 ⊢;obtain⟨x1,b1,hF1⟩:=Du (G k);have nf1:=dP (G k);rw[hF1] at nf1;unfold RS;rw[hF1];refine Rr ?_;refine aH (fun hb=>?_) (fun hb=>?_)
       ·have hlt:k<xv.length:=by simpa using hb
        have hlt2:k+1<xc.length:=by omega
        have hlt0:0<xc.length:=by omega
        obtain⟨x2,b2,hF2⟩:=Du (G (k+1));have nf2:=dP (G (k+1));rw[hF2] at nf2;have hsk:=hs k;have hsk1:=hs (k+1);have hnk:=hnx k hlt;have e1:(aU xv)[((k:Nat):Int).toNat]? = some (cN xv[k]):=by rw[Yl,jE,Yj hlt];rfl
        have hwr:IntKind.i64.wrap ((k:Int)+1)=((k+1:Nat):Int):=by
         rw[bA ⟨by omega,by omega⟩];simp
        have e2:(bH xc)[((k+1:Nat):Int).toNat]? = some (.int .i64 xc[k+1]):=by
         rw[Yl];simp[bU,Yj hlt2]
        have e0:(bH xc)[(0:Int).toNat]? = some (.int .i64 (xc.getD 0 0)):=by
         rw[show (0:Int).toNat=0 from rfl,Ym,Yj hlt0];simp[bU,Yj hlt0]
        obtain⟨q0,q1⟩:=hkm xc[k+1] (Y8 hlt2);obtain⟨p0,p1⟩:=hkm (xc.getD 0 0) (by rw[Ym,Yj hlt0];exact Y8 hlt0);obtain⟨ok1,sz1⟩:=hvv _ (Y8 hlt);generalize xc[k+1]=q at *;generalize xc.getD 0 0=p at *;generalize xv[k]=u at *;obtain⟨q,rfl⟩:=Y4 q0;obtain⟨p,rfl⟩:=Y4 p0;rw[Yl] at q1 p1;rw[Yl,Yl] at hnk;have hoq:=hav q q1;have hop:=hov p p1 u;have iq:=ih q q1;have ip:=hofc p p1;obtain⟨x4,b4,hF4⟩:=Du ((cA aW).of A p u);obtain⟨x3,b3,hF3⟩:=Du ((cA aW).all A q);obtain⟨u1,u2,u3,u4⟩:=u;have hpr:=JF hsk hop hoq (by rw[←hnk];exact hsk1);obtain⟨x5,b5,hF5⟩:=Du (Go.Ax.d9 aW ((cA aW).of A p (.mk u1 u2 u3 u4)) ((cA aW).all A q));refine Rr ?_;refine aB e1 ?_;refine Rr ?_;refine aB e0 ?_;refine Rr ?_;rw[hwr];refine Rr ?_;refine aB e2 ?_;refine Rr ?_;refine F4 ip hL1 ok1 sz1 rfl hF4 fun L2 hL2=>?_
        refine Rr ?_;repeat((first|refine b9.2 ?_|refine bO ?_|refine aB e2 ?_|refine aB e0 ?_);refine Rr ?_)
        refine I8 iq hL2 rfl hF3 fun L3 hL3=>?_
        refine Rr ?_;repeat((first|refine b9.2 ?_|refine bO ?_|refine aB e2 ?_|refine aB e0 ?_);refine Rr ?_)
        refine Gb (r:=.agg [.bool false,.il 1 x5,.bool b5]) hop hoq hpr hF4 hF3 hF5 rfl ?_;refine Rr ?_;repeat((first|refine b9.2 ?_|refine bO ?_|refine aB e2 ?_|refine aB e0 ?_);refine Rr ?_)
        refine L9 (r:=.agg [.bool false,.il 1 x2,.bool b2]) hsk hpr (by rw[←hnk];exact hsk1) hF1 hF5 (by rw[←hnk];exact hF2) rfl ?_;refine Rt ?_;exact .mk (k+1,L3) [(0,0),(1,1),(2,2),(3,3),(4,4)] ⟨by simp only;omega,hL3⟩
         (aE _ rfl (zH (ib:=2) (ic:=3) (id:=4) rfl rfl rfl rfl rfl rfl rfl rfl rfl rfl (by simp only;rw[hF2];exact BT _ _ nf2))
          ⟨aG,aG,aG,aN (.ip' nN),aG,aN (.il' (bI _)),aK,⟨_,rfl,.int (by rw[bA ⟨by omega,by omega⟩];simp)⟩,trivial⟩) (by simp only;omega)
       ·have hke:k=xv.length:=by
         have:¬k<xv.length:=by simpa using hb
         omega
        conv=>whnf
        repeat(first|(refine hJ L1 _ [(0,0),(1,1),(2,2),(3,3),(4,4)] hL1 ?_;exact JC rfl rfl rfl rfl rfl rfl rfl rfl rfl rfl rfl (by rw[hp,←hke,hF1];exact BT x1 b1 nf1) rfl rfl rfl rfl rfl;done)|(refine Xg ?_;conv=>whnf))
      ·have k4:xk≠4:=by simpa using h
       rw[Yo k4] at hp
       conv=>whnf
       repeat(first|(refine hJ L _ [(0,0),(1,1),(2,2),(3,3),(16,4)] hL ?_;exact JC rfl rfl rfl rfl rfl rfl rfl rfl rfl rfl rfl (by rw[hp];exact NC 1) rfl rfl rfl rfl rfl;done)|(refine Xg ?_;conv=>whnf))
  ·have nf:=dP res;have hkok:iC (i,none):=trivial;generalize hk:((i,none):Key)=kk at *;cases h2:yB a kk with
   | false=>
    have hf:=hfn a h2;have hs:=hsn a;clear hfn hfy hsn hlk hp;unfold jA RS;generalize rP i7 aW A a=E at *;obtain⟨x,b,hF⟩:∃x b,i7 res = .agg [.bool false,.il 1 x,.bool b]:=by cases res<;>exact⟨_,_,rfl⟩
    rw[hF] at hs nf ⊢;refine Rr ?_;rw[hf];refine Rr ?_;refine iN.2 ?_;refine Rr ?_;refine bF (n':=2) (m':=uU A (a++[kk])) [(0,0),(1,1)] rfl (dD (i:=0) (j:=1) rfl rfl rfl (by rw[hs];rfl)) (.same _ (by assumption)) ⟨a++[kk],fun q hq=>?_,hF.symm,rfl,rfl⟩;rcases Yz.1 hq with hq|hq
    ·exact ha q hq
    ·rw[Z3.1 hq];exact hkok
   | true=>
    obtain⟨j,hj,he⟩:=hfy a ha h2;clear hfn hfy hsn hlk hp;unfold jA RS;generalize hE:rP i7 aW A a=E at *;rw[ZD] at hj;obtain⟨x,b,hF⟩:∃x b,i7 res = .agg [.bool false,.il 1 x,.bool b]:=by cases res<;>exact⟨_,_,rfl⟩
    rw[hF] at hj he nf ⊢;refine Rr ?_;rw[hj];refine Rr ?_;refine aB he ?_;refine Rr ?_;refine aM hss ?_;refine Rr ?_;refine b9.2 ?_;rw[IE he];refine Rr ?_;exact bF (n':=2) (m':=uU A a) [(0,0),(1,1)] rfl (dD (i:=0) (j:=1) rfl rfl rfl (by rw[hE];rfl)) (.same _ nf) ⟨a,ha,hF.symm,rfl,rfl⟩
set_option maxHeartbeats 4000000
theorem M0(n:Int):i64 (IntKind.i64.wrap n):=by
 rw[IntKind.wrap_i64];exact⟨by omega,by omega⟩
theorem AQ(n most:Int)(hn:i64 n)(hm:1<=most):aT prog [] 30 [.int .i64 n,.int .i64 most] (.int .i64 (mV n most)):=by
 have hz:decide (most≠0)=true:=by simp;omega
 unfold i64 at hn;refine aD bD func30 rfl ?_;refine Rr ?_;refine aH (fun h=>?_) (fun h=>?_)
 ·have h:n<0:=by simpa using h
  refine Rr ?_;refine aM (by rw[ZC (by omega)];rfl) ?_;refine Rr ?_;refine aA nn ⟨?_,rfl,rfl⟩;rw[mV,Yt h,w64 (x:=n+1) (y:=n+1) rfl ⟨by omega,by omega⟩,w64 (x:=0-(n+1)) (y:=-(n+1)) (by omega) ⟨by omega,by omega⟩]
 ·have h:¬n<0:=by simpa using h
  refine Rr ?_;refine aM (by rw[ZC (by omega)];rfl) ?_;refine Rr ?_;refine aA nn ⟨?_,rfl,rfl⟩;rw[mV,Yo h]
theorem Iv(l:List Int)(i most:Int)(hl:∀x∈l,i64 x)(hm:1<=most):aT prog [] 26 [.il 1 (bH l),.int .i64 i,.int .i64 most] (.int .i64 (nF l i most)):=by
 refine aD bD func26 rfl ?_;refine Rr ?_;refine aH (fun h=>?_) (fun h=>?_)
 ·rw[h];refine Rr ?_;refine aA nn ⟨?_,rfl,rfl⟩;rw[nF,Yt (.inl (by simpa using h))]
 ·have h0:0<=i:=by simpa using h
  rw[h];refine Rr ?_;refine aH (fun h=>?_) (fun h=>?_)
  ·refine Rr ?_;refine aA nn ⟨?_,rfl,rfl⟩;rw[aI] at h;rw[nF,Yt (.inr (by simpa using h))]
  ·rw[aI] at h;have h1:i<l.length:=by simpa using h
   obtain⟨q,rfl⟩:=Y4 h0;have hq:q<l.length:=by omega
   refine Rr ?_;refine aB (a:=.int .i64 l[q]) (by rw[Yl,bU,Yj hq];rfl) ?_;refine Rr ?_;refine(AQ l[q] most (hl _ (Y8 hq)) hm).go ?_;refine Rr ?_;refine aA nn ⟨?_,rfl,rfl⟩;rw[nF,Yo (by omega),Yl,Ym,Yj hq];rfl
theorem Ph(l:List Int)(i j:Int)(hl:∀x∈l,i64 x)(hi:1<=i)(hi':i<=1000)(hj:0<=j)(hj':j<=1000):aT prog [] 28 [.il 1 (bH l),.int .i64 i,.int .i64 j] (.int .i64 (kidI l i j)):=by
 have hp:=Iv l (3*i+j+2) 1000000 hl (by omega);have hb:=mG (l:=l) (i:=3*i+j+2) (most:=1000000) (by omega);have hk:kidI l i j=if (nF l (3*i+j+2) 1000000).tmod 3=0 then((nF l (3*i+j+2) 1000000).tdiv 3).tmod i else max 0 (i-1-((nF l (3*i+j+2) 1000000).tdiv 3).tmod 3):=rfl
 generalize nF l (3*i+j+2) 1000000=p at hp hb hk;rw[hk];have hd:0<=p.tdiv 3/\p.tdiv 3<=1000000:=by
  rw[aAh hb.1];omega
 have hd3:0<=(p.tdiv 3).tmod 3/\(p.tdiv 3).tmod 3<3:=⟨aAC _ hd.1,aAx _ (by omega)⟩
 refine aD bD func28 rfl ?_;refine Rr ?_;rw[w64 (x:=3*i) (y:=3*i) rfl ⟨by omega,by omega⟩,w64 (x:=3*i+j) (y:=3*i+j) rfl ⟨by omega,by omega⟩,w64 (x:=3*i+j+2) (y:=3*i+j+2) rfl ⟨by omega,by omega⟩];refine hp.go ?_;refine Rr ?_;refine aH (fun h=>?_) (fun h=>?_)
 ·have h:p.tmod 3=0:=by simpa using h
  refine Rr ?_;refine aM (by rw[ZC (by omega)];rfl) ?_;refine Rr ?_;refine aA nn ⟨?_,rfl,rfl⟩;rw[Yt h,w64 (x:=p.tdiv 3) (y:=p.tdiv 3) rfl ⟨by omega,by omega⟩]
 ·have h:¬p.tmod 3=0:=by simpa using h
  refine Rr ?_;refine aA nn ⟨?_,rfl,rfl⟩;rw[Yo h,w64 (x:=p.tdiv 3) (y:=p.tdiv 3) rfl ⟨by omega,by omega⟩,w64 (x:=i-1) (y:=i-1) rfl ⟨by omega,by omega⟩,w64 (x:=i-1-(p.tdiv 3).tmod 3) (y:=i-1-(p.tdiv 3).tmod 3) rfl ⟨by omega,by omega⟩];congr 1;simp;omega
theorem Tq(k:Int)(h0:0<=k)(h1:k<=1000000):aT prog [] 27 [.int .i64 k] (cN (yL k)):=by
 have hd:0<=k.tdiv 4/\k.tdiv 4<=1000000:=by
  rw[aAh h0];omega
 have hm:0<=k.tmod 4/\k.tmod 4<4:=⟨aAC _ h0,aAx _ (by omega)⟩
 have h9:0<=(k.tdiv 4).tmod 9/\(k.tdiv 4).tmod 9<9:=⟨aAC _ hd.1,aAx _ (by omega)⟩
 have h3:0<=(k.tdiv 4).tmod 3/\(k.tdiv 4).tmod 3<3:=⟨aAC _ hd.1,aAx _ (by omega)⟩
 have hw:IntKind.i64.wrap (k.tdiv 4)=k.tdiv 4:=w64 rfl ⟨by omega,by omega⟩;have hv:yL k=if k.tmod 4=0 then .mk 0 ((k.tdiv 4).tmod 9-4) [] []
  else if k.tmod 4=1 then .mk 1 ((k.tdiv 4).tmod 2) [] []
  else if k.tmod 4=2 then .mk 3 0 (([[76,101,97,102],[82,101,100],[88]]:List (List UInt8)).getD ((k.tdiv 4).tmod 3).toNat []) []
  else .mk 2 0 [] [.mk 0 ((k.tdiv 4).tmod 3) [] []]:=rfl
 generalize yL k=v at hv;have hw9:IntKind.i64.wrap ((k.tdiv 4).tmod 9-4)=(k.tdiv 4).tmod 9-4:=w64 rfl ⟨by omega,by omega⟩;refine aD bD func27 rfl ?_;rcases(show k.tmod 4=0∨k.tmod 4=1∨k.tmod 4=2∨k.tmod 4=3 by omega) with e|e|e|e
 ·rw[Yt e] at hv;refine Rr ?_;rw[e];refine Rr ?_;rw[hw,hw9];exact fL (.agg' (.s (.s (.s (.cons (.nil 4) .nil))))) ⟨by rw[hv];rfl,rfl,rfl⟩
 ·rw[Yo (by omega),Yt e] at hv;refine Rr ?_;rw[e];refine Rr ?_;rw[hw];exact fL (.agg' (.s (.s (.s (.cons (.nil 4) .nil))))) ⟨by rw[hv];rfl,rfl,rfl⟩
 ·rw[Yo (by omega),Yo (by omega),Yt e] at hv;refine Rr ?_;rw[e];refine Rr ?_;rw[hw];rcases(show (k.tdiv 4).tmod 3=0∨(k.tdiv 4).tmod 3=1∨(k.tdiv 4).tmod 3=2 by omega) with e3|e3|e3
  all_goals
   rw[e3] at hv ⊢;refine Rr ?_;exact fL (.agg' (.s (.s (.s (.cons (.nil 4) .nil))))) ⟨by rw[hv];rfl,rfl,rfl⟩
 ·rw[Yo (by omega),Yo (by omega),Yo (by omega)] at hv;refine Rr ?_;rw[e];refine Rr ?_;rw[hw];exact fL (.agg' (.s (.s (.s (.cons (.fzR rfl rfl (.cons (I4 _ _ _) .nil) rfl) .nil))))) ⟨by rw[hv];rfl,rfl,rfl⟩
end Go.Proofs.YtidjhgajglebnaaGreatDoor
