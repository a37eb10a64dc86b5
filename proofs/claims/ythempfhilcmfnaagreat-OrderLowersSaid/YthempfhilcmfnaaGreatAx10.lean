/- A part of the proof. -/
import Derived.Test.YthempfhilcmfnaaGreatAx9
import Derived.Test.YthempfhilcmfnaaGreatProg
import Derived.KernelRfl
import Derived.Lib.ItoaMem
import Derived.Lib.AtoiAllCases
import Derived.Recover
set_option linter.unusedVariables false
set_option linter.unusedSimpArgs false
namespace Go.Proofs.YthempfhilcmfnaaGreat
open Go Go.Ax Go.Proofs Tryz
set_option maxRecDepth 100000
theorem LS(x:Int):a8 prog [] 36 [.int .i64 x] (.bool false):=by
 refine fQ bC func36 rfl ?_
 conv=>whnf
 refine aA (.bool _) ⟨?_,rfl,rfl⟩;simp
theorem Le(x:List UInt8):a8 prog [] 153 [.str x] (.bool false):=by
 refine fQ bC func153 rfl ?_
 conv=>whnf
 refine aA (.bool _) ⟨?_,rfl,rfl⟩;simp
theorem Dv(x y:Int):a8 prog [] 20 [.int .i64 x,.int .i64 y] (.int .i64 (jZ x y)):=by
 refine fQ bC func20 rfl ?_
 conv=>whnf
 refine(LS x).use bC (.cons (.int _ _) .nil) (.bool _) ?_
 conv=>whnf
 refine(LS y).use bC (.cons (.int _ _) .nil) (.bool _) ?_
 conv=>whnf
 refine aO (fun h=>?_) (fun h=>?_)
 ·conv=>whnf
  refine aA (.int _ _) ⟨?_,rfl,rfl⟩;simp at h;simp[jZ,h]
 conv=>whnf
 refine aO (fun h'=>?_) (fun h'=>?_)
 ·conv=>whnf
  refine aA (.int _ _) ⟨?_,rfl,rfl⟩;simp at h h';simp only[jZ];rw[Rp (by omega),Rx (by omega)]
 ·conv=>whnf
  refine aA (.int _ _) ⟨?_,rfl,rfl⟩;simp at h h';simp only[jZ];rw[Rp (by omega),Rp (by omega)]
theorem O3(x y:List UInt8):a8 prog [] 145 [.str x,.str y] (.int .i64 (jF x y)):=by
 refine fQ bC func145 rfl ?_
 conv=>whnf
 refine(Le x).use bC (.cons (.str _) .nil) (.bool _) ?_
 conv=>whnf
 refine(Le y).use bC (.cons (.str _) .nil) (.bool _) ?_
 conv=>whnf
 refine aO (fun h=>?_) (fun h=>?_)
 ·conv=>whnf
  refine aA (.int _ _) ⟨?_,rfl,rfl⟩;rw[Cy.1 h]
 conv=>whnf
 refine aO (fun h'=>?_) (fun h'=>?_)
 ·conv=>whnf
  refine aA (.int _ _) ⟨?_,rfl,rfl⟩;rw[I3 h h']
 ·conv=>whnf
  refine aA (.int _ _) ⟨?_,rfl,rfl⟩;rw[JW h h']
theorem MN(l1 l2:List bB)(hb:l1.length<=4294967296)(hc:∀a∈l1,∀b∈l2,a8 prog [] 136 [bT a,bT b] (.int .i64 (cN a b))) :
  a8 prog [] 146 [.il 4 (aT l1),.il 4 (aT l2),.fn (.func 136) [] []] (.int .i64 (fU l1 l2)):=by
 have n1:NN (.il 4 (aT l1)):=.il' (aV l1);have n2:NN (.il 4 (aT l2)):=.il' (aV l2);have n3:NN (.fn (.func 136) [] []):=.fn _ _ _ (by simp) (by simp);refine fQ bC func146 rfl ?_
 conv=>whnf
 refine eA.loopAt bC (fun k:Nat=>k<=l1.length/\k<=l2.length/\fU l1 l2=fU (l1.drop k) (l2.drop k))
  (fun k=>⟨[(0,.il 4 (aT l1)),(1,.il 4 (aT l2)),(2,.fn (.func 136) [] []),(11,.il 4 (aT l1)),(12,.int .i64 (aT l1).length),(13,.int .i64 k)],[],0,39⟩)
  (fun k=>l1.length-k) 0 [] ⟨by simp,by simp,by simp⟩
  (bL ⟨⟨_,rfl,.same _ n1⟩,⟨_,rfl,.same _ n2⟩,⟨_,rfl,.same _ n3⟩,⟨_,rfl,.same _ n1⟩,⟨_,rfl,.same _ (.int _ _)⟩,⟨_,rfl,.same _ (.int _ _)⟩,trivial⟩) ?_
 rintro k ⟨h1,h2,h3⟩
 conv=>whnf
 refine aO (fun h=>?_) (fun h=>?_)
 ·have hk:k<l1.length:=by rw[aF] at h;simpa using h
  obtain⟨⟨ka,na,sa,ksa⟩,hv⟩:∃v,v=l1[k]:=⟨_,rfl⟩
  have hm:bB.mk ka na sa ksa∈l1:=by rw[hv];exact SI hk
  have e:(aT l1)[(k:Int).toNat]? = some (bT (.mk ka na sa ksa)):=by rw[Rq,i6,Rm hk,hv];rfl
  conv=>whnf
  refine aC e ?_
  conv=>whnf
  refine aO (fun h'=>?_) (fun h'=>?_)
  ·have hk2:k=l2.length:=by rw[aF] at h';simp at h';omega
   conv=>whnf
   refine aA (.int _ _) ⟨?_,rfl,rfl⟩;rw[h3,Sg (l:=l2) (by omega),SH hk,fU]
  ·have hk2:k<l2.length:=by rw[aF] at h';simpa using h'
   obtain⟨⟨kb,nb,sb,ksb⟩,hv2⟩:∃v,v=l2[k]:=⟨_,rfl⟩
   have hm2:bB.mk kb nb sb ksb∈l2:=by rw[hv2];exact SI hk2
   have e2:(aT l2)[(k:Int).toNat]? = some (bT (.mk kb nb sb ksb)):=by rw[Rq,i6,Rm hk2,hv2];rfl
   conv=>whnf
   refine aC e2 ?_
   conv=>whnf
   refine(hc _ hm _ hm2).use bC (.cons (bM _) (.cons (bM _) .nil)) (.int _ _) ?_
   conv=>whnf
   have hs:=DK hk hk2;rw[←hv,←hv2] at hs;refine aO (fun h4=>?_) (fun h4=>?_)
   ·conv=>whnf
    refine aA (.int _ _) ⟨?_,rfl,rfl⟩;have h4:cN (.mk ka na sa ksa) (.mk kb nb sb ksb)≠0:=by simpa using h4
    rw[h3,hs,andThen,Rp h4]
   ·have h4:cN (.mk ka na sa ksa) (.mk kb nb sb ksb)=0:=by simpa using h4
    conv=>whnf
    refine .mk (k+1) [] ⟨by omega,by omega, ?_⟩ (bL ⟨⟨_,rfl,.same _ n1⟩,⟨_,rfl,.same _ n2⟩,⟨_,rfl,.same _ n3⟩,⟨_,rfl,.same _ n1⟩,⟨_,rfl,.same _ (.int _ _)⟩,⟨_,rfl,.eq (.int _ _) ?_⟩,trivial⟩) (by omega)
    ·rw[h3,hs,andThen,Rx h4]
    ·rw[bY ⟨by omega,by omega⟩];rfl
 ·have hk:k=l1.length:=by rw[aF] at h;simp at h;omega
  have hd:l1.drop k=[]:=Sg (by omega)
  conv=>whnf
  refine aO (fun h'=>?_) (fun h'=>?_)
  ·have hk2:l1.length<l2.length:=by rw[aF,aF] at h';simpa using h'
   conv=>whnf
   refine aA (.int _ _) ⟨?_,rfl,rfl⟩;rw[h3,hd,SH (show k<l2.length by omega),fU]
  ·have hk2:l2.length<=l1.length:=by rw[aF,aF] at h';simpa using h'
   conv=>whnf
   refine aA (.int _ _) ⟨?_,rfl,rfl⟩;rw[h3,hd,Sg (by omega),fU]
theorem nN:∀(a b:bB),iA a->a8 prog [] 136 [bT a,bT b] (.int .i64 (cN a b))
 | .mk ka na sa ksa,.mk kb nb sb ksb,ha=>by
  simp only[iA] at ha;have hkids:∀a∈ksa,∀b∈ksb,a8 prog [] 136 [bT a,bT b] (.int .i64 (cN a b)):=fun a hm b _=>nN a b (pC ha.2.2.2.2 a hm)
  refine fQ bC func136 rfl ?_
  conv=>whnf
  refine(Dv ka kb).use bC (.cons (.int _ _) (.cons (.int _ _) .nil)) (.int _ _) ?_
  conv=>whnf
  refine aO (fun h=>?_) (fun h=>?_)
  ·conv=>whnf
   refine aA (.int _ _) ⟨?_,rfl,rfl⟩;have h:jZ ka kb≠0:=by simpa using h
   rw[cN,andThen,Rp h]
  have h:jZ ka kb=0:=by simpa using h
  conv=>whnf
  refine(Dv na nb).use bC (.cons (.int _ _) (.cons (.int _ _) .nil)) (.int _ _) ?_
  conv=>whnf
  refine aO (fun h2=>?_) (fun h2=>?_)
  ·conv=>whnf
   refine aA (.int _ _) ⟨?_,rfl,rfl⟩;have h2:jZ na nb≠0:=by simpa using h2
   rw[cN,andThen,Rx h,andThen,Rp h2]
  have h2:jZ na nb=0:=by simpa using h2
  conv=>whnf
  refine(O3 sa sb).use bC (.cons (.str _) (.cons (.str _) .nil)) (.int _ _) ?_
  conv=>whnf
  refine aO (fun h3=>?_) (fun h3=>?_)
  ·conv=>whnf
   refine aA (.int _ _) ⟨?_,rfl,rfl⟩;have h3:jF sa sb≠0:=by simpa using h3
   rw[cN,andThen,Rx h,andThen,Rx h2,andThen,Rp h3]
  have h3:jF sa sb=0:=by simpa using h3
  conv=>whnf
  refine(MN ksa ksb ha.2.2.2.1 hkids).use bC (.cons (.il' (aV _)) (.cons (.il' (aV _)) (.cons (.fn _ _ _ (by simp) (by simp)) .nil))) (.int _ _) ?_
  conv=>whnf
  refine aA (.int _ _) ⟨?_,rfl,rfl⟩;rw[cN,andThen,Rx h,andThen,Rx h2,andThen,Rx h3]
 termination_by a=>SizeOf.sizeOf a
 decreasing_by simp;have:=TL hm;omega
theorem Fh(b:Bool):a8 prog [] 134 [.bool b] (.int .i64 (if b then -1 else 1)):=by
 refine fQ bC func134 rfl ?_
 conv=>whnf
 refine aO (fun h=>?_) (fun h=>?_)
 ·conv=>whnf
  exact aA (.int _ _) ⟨by rw[h];rfl,rfl,rfl⟩
 ·conv=>whnf
  exact aA (.int _ _) ⟨by rw[h];rfl,rfl,rfl⟩
theorem wM:∀(a b:bB),iA a->a8 prog [] 116 [bT a,bT b] (.int .i64 (cN a b))
 | .mk ka na sa ksa,.mk kb nb sb ksb,ha=>by
  simp only[iA] at ha;have hb:ksa.length<=4294967296:=ha.2.2.2.1;have hkids:∀a∈ksa,∀b∈ksb,a8 prog [] 116 [bT a,bT b] (.int .i64 (cN a b)):=fun a hm b _=>wM a b (pC ha.2.2.2.2 a hm)
  refine fQ bC func116 rfl ?_
  conv=>whnf
  refine aO (fun h=>?_) (fun h=>?_)
  ·conv=>whnf
   refine(Fh _).use bC (.cons (.bool _) .nil) (.int _ _) ?_
   conv=>whnf
   refine aA (.int _ _) ⟨?_,rfl,rfl⟩;rw[Ju (by simpa using h)];simp
  have h:ka=kb:=by simpa using h
  conv=>whnf
  refine aO (fun h2=>?_) (fun h2=>?_)
  ·conv=>whnf
   refine(Fh _).use bC (.cons (.bool _) .nil) (.int _ _) ?_
   conv=>whnf
   refine aA (.int _ _) ⟨?_,rfl,rfl⟩;rw[Ku h (by simpa using h2)];simp
  have h2:na=nb:=by simpa using h2
  conv=>whnf
  refine aO (fun h3=>?_) (fun h3=>?_)
  ·conv=>whnf
   refine(Fh _).use bC (.cons (.bool _) .nil) (.int _ _) ?_
   conv=>whnf
   refine aA (.int _ _) ⟨?_,rfl,rfl⟩;rw[PP h h2 (by simpa using h3)]
  have h3:sa=sb:=by simpa using h3
  have hcmp:cN (.mk ka na sa ksa) (.mk kb nb sb ksb)=fU ksa ksb:=Ox h h2 h3
  conv=>whnf
  refine eA.loopAt bC (fun k:Nat=>k<=ksa.length/\k<=ksb.length/\fU ksa ksb=fU (ksa.drop k) (ksb.drop k))
   (fun k=>⟨[(2,.ptr 0 0 0),(3,.ptr 1 0 0),(5,.int .i64 k)],[(1,.row 60 4 [bT (.mk kb nb sb ksb)]),(0,.row 60 4 [bT (.mk ka na sa ksa)])],2,83⟩)
   (fun k=>ksa.length-k) 0 [(0,0),(1,1)] ⟨by simp,by simp,by simp⟩
   (aJ _ rfl ⟨⟨1,_,rfl,rfl,.same (.cons (bM _) .nil)⟩,⟨0,_,rfl,rfl,.same (.cons (bM _) .nil)⟩,trivial⟩ ⟨⟨_,rfl,.ptr 0 0 0 0 rfl⟩,⟨_,rfl,.ptr 1 1 0 0 rfl⟩,⟨_,rfl,.same _ (.int _ _)⟩,trivial⟩) ?_
  rintro k ⟨h4,h5,h6⟩
  conv=>whnf
  refine aO (fun h7=>?_) (fun h7=>?_)
  ·have hk:k<ksa.length:=by rw[aF] at h7;simpa using h7
   rw[h7]
   conv=>whnf
   refine aO (fun h8=>?_) (fun h8=>?_)
   ·have hk2:k<ksb.length:=by rw[aF] at h8;simpa using h8
    conv=>whnf
    have e1:=zI hk;have e2:=zI hk2;obtain⟨⟨k1,n1,s1,ks1⟩,hv1⟩:∃v,v=ksa[k]:=⟨_,rfl⟩
    obtain⟨⟨k2,n2,s2,ks2⟩,hv2⟩:∃v,v=ksb[k]:=⟨_,rfl⟩
    rw[←hv1] at e1;rw[←hv2] at e2;refine aC e1 ?_
    conv=>whnf
    refine aC e2 ?_
    conv=>whnf
    have hm1:bB.mk k1 n1 s1 ks1∈ksa:=by rw[hv1];exact SI hk
    have hm2:bB.mk k2 n2 s2 ks2∈ksb:=by rw[hv2];exact SI hk2
    have hs:=DK hk hk2;rw[←hv1,←hv2] at hs;refine(hkids _ hm1 _ hm2).use bC (.cons (bM _) (.cons (bM _) .nil)) (.int _ _) ?_
    conv=>whnf
    refine aO (fun h9=>?_) (fun h9=>?_)
    ·have h9:cN (.mk k1 n1 s1 ks1) (.mk k2 n2 s2 ks2)≠0:=by simpa using h9
     conv=>whnf
     refine aA (.int _ _) ⟨?_,rfl,rfl⟩;rw[hcmp,h6,hs,andThen,Rp h9]
    ·have h9:cN (.mk k1 n1 s1 ks1) (.mk k2 n2 s2 ks2)=0:=by simpa using h9
     conv=>whnf
     refine .mk (k+1) [(0,0),(1,1)] ⟨by omega,by omega,by rw[h6,hs,andThen,Rx h9]⟩ (aJ _ rfl ⟨⟨1,_,rfl,rfl,.same (.cons (bM _) .nil)⟩,⟨0,_,rfl,rfl,.same (.cons (bM _) .nil)⟩,trivial⟩ ⟨⟨_,rfl,.ptr 0 0 0 0 rfl⟩,⟨_,rfl,.ptr 1 1 0 0 rfl⟩,⟨_,rfl,.eq (.int _ _) ?_⟩,trivial⟩) (by omega);rw[bY ⟨by omega,by omega⟩];rfl
   ·have hk2:k=ksb.length:=by rw[aF] at h8;simp at h8;omega
    conv=>whnf
    refine aO (fun h9=>?_) (fun h9=>?_)
    ·exfalso;rw[aF,aF] at h9;simp at h9;omega
    ·conv=>whnf
     refine(Fh _).use bC (.cons (.bool _) .nil) (.int _ _) ?_
     conv=>whnf
     refine aA (.int _ _) ⟨?_,rfl,rfl⟩;rw[hcmp,h6,Sg (l:=ksb) (by omega),SH hk,fU,aF,aF,Rp (by simp;omega)]
  ·have hk:k=ksa.length:=by rw[aF] at h7;simp at h7;omega
   have hd:ksa.drop k=[]:=Sg (by omega);rw[h7]
   conv=>whnf
   refine aO (fun h9=>?_) (fun h9=>?_)
   ·have h9:ksa.length=ksb.length:=by rw[aF,aF] at h9;simp at h9;omega
    conv=>whnf
    refine aA (.int _ _) ⟨?_,rfl,rfl⟩;rw[hcmp,h6,hd,Sg (by omega),fU]
   ·have h9:ksa.length≠ksb.length:=by rw[aF,aF] at h9;simp at h9;omega
    conv=>whnf
    refine(Fh _).use bC (.cons (.bool _) .nil) (.int _ _) ?_
    conv=>whnf
    refine aA (.int _ _) ⟨?_,rfl,rfl⟩;rw[hcmp,h6,hd,SH (show k<ksb.length by omega),fU,aF,aF,Rx (by simp;omega)]
 termination_by a=>SizeOf.sizeOf a
 decreasing_by simp;have:=TL hm;omega
end Go.Proofs.YthempfhilcmfnaaGreat
namespace Go.Proofs.YthempfhilcmfnaaGreat
open Go Go.Ax Go.Proofs Tryz
set_option maxRecDepth 100000
theorem Cx{l:List bB}{k:Nat}{v a:bB}(h:l[k]? = some a):EN l k v=(cN a v == 0):=by simp[EN,h]
theorem Cs{l:List bB}{k:Nat}{v:bB}(h:l.length<=k):EN l k v=false:=by simp[EN,R8 h]
theorem Nt(l:List bB)(v:bB)(hl:l.length<=4294967296)(hok:∀a∈l,iA a) :
  a8 prog [] 99 [.il 4 (aT l),bT v] (.tup [.int .i64 (Go.Ax.d9 l v).1,.bool (Go.Ax.d9 l v).2]):=by
 obtain⟨vk,vn,vs,vks⟩:=v;have nl:NN (.il 4 (aT l)):=.il' (aV l);have nt:∀(k:Int) (b:Bool),NN (.tup [.int .i64 k,.bool b]):=fun k b=>.tup' (.cons (.int _ _) (.cons (.bool _) .nil))
 refine fQ bC func99 rfl ?_
 conv=>whnf
 refine eA.loopAt bC (fun k:Nat=>k<=l.length/\∀p a,p<k->l[p]? = some a->cN a (.mk vk vn vs vks)<0)
  (fun k=>⟨[(0,.il 4 (aT l)),(3,.ptr 0 0 0),(6,.int .i64 k)],[(0,.row 60 4 [bT (.mk vk vn vs vks)])],1,27⟩)
  (fun k=>l.length-k) 0 [(0,0)] ⟨by simp,by simp⟩
  (aJ _ rfl ⟨⟨0,_,rfl,rfl,.same (.cons (bM _) .nil)⟩,trivial⟩ ⟨⟨_,rfl,.same _ nl⟩,⟨_,rfl,.ptr 0 0 0 0 rfl⟩,⟨_,rfl,.same _ (.int _ _)⟩,trivial⟩) ?_
 rintro k ⟨h1,h2⟩
 conv=>whnf
 refine aO (fun h=>?_) (fun h=>?_)
 ·have hk:k<l.length:=by rw[aF] at h;simpa using h
  have e:=zI hk;obtain⟨⟨ak,an,az,aks⟩,hv⟩:∃a,a=l[k]:=⟨_,rfl⟩
  rw[←hv] at e;have hm:bB.mk ak an az aks∈l:=by rw[hv];exact SI hk
  have hg:l[k]? = some (bB.mk ak an az aks):=by rw[hv];exact Rm hk
  conv=>whnf
  refine aC e ?_
  conv=>whnf
  refine(wM (.mk ak an az aks) (.mk vk vn vs vks) (hok _ hm)).use bC (.cons (bM _) (.cons (bM _) .nil)) (.int _ _) ?_
  conv=>whnf
  refine aO (fun h3=>?_) (fun h3=>?_)
  ·have h3:0<=cN (.mk ak an az aks) (.mk vk vn vs vks):=by simpa using h3
   conv=>whnf
   refine aA (nt _ _) ⟨?_,rfl,rfl⟩;rw[rW h1 h2 (fun a ha=>by rw[hg] at ha;cases ha;exact h3),Cx hg]
  ·have h3:cN (.mk ak an az aks) (.mk vk vn vs vks)<0:=by simpa using h3
   conv=>whnf
   refine .mk (k+1) [(0,0)] ⟨by omega,fun p a hp ha=>?_⟩ (aJ _ rfl ⟨⟨0,_,rfl,rfl,.same (.cons (bM _) .nil)⟩,trivial⟩ ⟨⟨_,rfl,.same _ nl⟩,⟨_,rfl,.ptr 0 0 0 0 rfl⟩,⟨_,rfl,.eq (.int _ _) ?_⟩,trivial⟩) (by omega)
   ·rcases R9 p k with hp'|hp'
    ·exact h2 p a hp' ha
    ·have:p=k:=by omega
     subst this;rw[hg] at ha;cases ha;exact h3
   ·rw[bY ⟨by omega,by omega⟩];rfl
 ·have hk:k=l.length:=by rw[aF] at h;simp at h;omega
  conv=>whnf
  refine aA (nt _ _) ⟨?_,rfl,rfl⟩;rw[rW h1 h2 (fun a ha=>by rw[R8 (by omega)] at ha;cases ha),Cs (by omega),aF,hk]
theorem Mw(l:List bB)(v:bB)(hl:l.length<=4294967296)(hok:∀a∈l,iA a)(hs:lN l) :
  a8 prog [] 142 [.il 4 (aT l),bT v,.fn (.func 136) [] []] (.tup [.int .i64 (Go.Ax.d9 l v).1,.bool (Go.Ax.d9 l v).2]):=by
 obtain⟨vk,vn,vs,vks⟩:=v;have nl:NN (.il 4 (aT l)):=.il' (aV l);have nf:NN (.fn (.func 136) [] []):=.fn _ _ _ (by simp) (by simp);have nt:∀(k:Int) (b:Bool),NN (.tup [.int .i64 k,.bool b]):=fun k b=>.tup' (.cons (.int _ _) (.cons (.bool _) .nil))
 refine fQ bC func142 rfl ?_
 conv=>whnf
 refine eA.loopAt bC (fun x:Nat × Nat=>x.1<=x.2/\x.2<=l.length/\(∀p a,p<x.1->l[p]? = some a->cN a (.mk vk vn vs vks)<0)/\∀a,l[x.2]? = some a->0<=cN a (.mk vk vn vs vks))
  (fun x=>⟨[(0,.il 4 (aT l)),(2,.fn (.func 136) [] []),(4,.ptr 0 0 0),(8,.int .i64 (aT l).length),(9,.int .i64 x.1),(10,.int .i64 x.2)],[(0,.row 60 4 [bT (.mk vk vn vs vks)])],1,49⟩)
  (fun x=>x.2-x.1) (0,l.length) [(0,0)] ⟨by simp,by simp,by simp,fun a ha=>by simp at ha⟩
  (aJ _ rfl ⟨⟨0,_,rfl,rfl,.same (.cons (bM _) .nil)⟩,trivial⟩ ⟨⟨_,rfl,.same _ nl⟩,⟨_,rfl,.same _ nf⟩,⟨_,rfl,.ptr 0 0 0 0 rfl⟩,⟨_,rfl,.same _ (.int _ _)⟩,⟨_,rfl,.same _ (.int _ _)⟩,⟨_,rfl,.eq (.int _ _) (by rw[aF])⟩,trivial⟩) ?_
 rintro⟨i,j⟩ ⟨h1,h2,h3,h4⟩
 dsimp only at h1 h2 h3 h4 ⊢
 conv=>whnf
 refine aO (fun h=>?_) (fun h=>?_)
 ·have hij:i<j:=by simpa using h
  have hw1:IntKind.i64.wrap ((i:Int)+j)=((i+j:Nat):Int):=bY ⟨by omega,by omega⟩;have hw2:IntKind.u64.wrap ((i+j:Nat):Int)=((i+j:Nat):Int):=IntWalk.u64_in _ ⟨by omega,by omega⟩;have hw3:((i+j:Nat):Int).fdiv (2 ^ min (Int.toNat 1) IntKind.u64.bits)=(((i+j)/2:Nat):Int):=by
   rw[show (2:Int) ^ min (Int.toNat 1) IntKind.u64.bits=2 from rfl,Int.fdiv_eq_ediv_of_nonneg _ (by omega)];omega
  have hw4:IntKind.i64.wrap (((i+j)/2:Nat):Int)=(((i+j)/2:Nat):Int):=bY ⟨by omega,by omega⟩;generalize hm:(i+j)/2=m at *;have hm1:i<=m:=by omega
  have hm2:m<j:=by omega
  have hk:m<l.length:=by omega
  have e:=zI hk;obtain⟨⟨ak,an,az,aks⟩,hv⟩:∃a,a=l[m]:=⟨_,rfl⟩
  rw[←hv] at e;have hmem:bB.mk ak an az aks∈l:=by rw[hv];exact SI hk
  have hg:l[m]? = some (bB.mk ak an az aks):=by rw[hv];exact Rm hk
  conv=>whnf
  rw[hw1,hw2,hw3,hw4]
  conv=>whnf
  refine aC e ?_
  conv=>whnf
  refine(nN (.mk ak an az aks) (.mk vk vn vs vks) (hok _ hmem)).use bC (.cons (bM _) (.cons (bM _) .nil)) (.int _ _) ?_
  conv=>whnf
  refine aO (fun h5=>?_) (fun h5=>?_)
  ·have h5:cN (.mk ak an az aks) (.mk vk vn vs vks)<0:=by simpa using h5
   conv=>whnf
   refine .mk (m+1,j) [(0,0)] ⟨by simp only;omega,h2,fun p a hp ha=>?_,h4⟩ (aJ _ rfl ⟨⟨0,_,rfl,rfl,.same (.cons (bM _) .nil)⟩,trivial⟩ ⟨⟨_,rfl,.same _ nl⟩,⟨_,rfl,.same _ nf⟩,⟨_,rfl,.ptr 0 0 0 0 rfl⟩,⟨_,rfl,.same _ (.int _ _)⟩,⟨_,rfl,.eq (.int _ _) ?_⟩,⟨_,rfl,.same _ (.int _ _)⟩,trivial⟩) (by simp only;omega)
   ·simp only at hp;rcases R9 p m with hp'|hp'
    ·exact QB (by have:=hs.get hp' ha hg;omega) h5
    ·have:p=m:=by omega
     subst this;rw[hg] at ha;cases ha;exact h5
   ·rw[bY ⟨by omega,by omega⟩];rfl
  ·have h5:0<=cN (.mk ak an az aks) (.mk vk vn vs vks):=by simpa using h5
   conv=>whnf
   exact .mk (i,m) [(0,0)] ⟨hm1,by simp only;omega,h3,fun a ha=>by rw[hg] at ha;cases ha;exact h5⟩ (aJ _ rfl ⟨⟨0,_,rfl,rfl,.same (.cons (bM _) .nil)⟩,trivial⟩ ⟨⟨_,rfl,.same _ nl⟩,⟨_,rfl,.same _ nf⟩,⟨_,rfl,.ptr 0 0 0 0 rfl⟩,⟨_,rfl,.same _ (.int _ _)⟩,⟨_,rfl,.same _ (.int _ _)⟩,⟨_,rfl,.same _ (.int _ _)⟩,trivial⟩) (by simp only;omega)
 ·have hij:i=j:=by simp at h;omega
  subst hij;have hf:=rW h2 h3 h4
  conv=>whnf
  refine aO (fun h5=>?_) (fun h5=>?_)
  ·have hk:i<l.length:=by rw[aF] at h5;simpa using h5
   have e:=zI hk;obtain⟨⟨ak,an,az,aks⟩,hv⟩:∃a,a=l[i]:=⟨_,rfl⟩
   rw[←hv] at e;have hmem:bB.mk ak an az aks∈l:=by rw[hv];exact SI hk
   have hg:l[i]? = some (bB.mk ak an az aks):=by rw[hv];exact Rm hk
   rw[h5]
   conv=>whnf
   refine aC e ?_
   conv=>whnf
   refine(nN (.mk ak an az aks) (.mk vk vn vs vks) (hok _ hmem)).use bC (.cons (bM _) (.cons (bM _) .nil)) (.int _ _) ?_
   conv=>whnf
   refine aA (nt _ _) ⟨?_,rfl,rfl⟩;rw[hf,Cx hg]
  ·have hk:l.length<=i:=by rw[aF] at h5;simpa using h5
   rw[h5]
   conv=>whnf
   refine aA (nt _ _) ⟨?_,rfl,rfl⟩;rw[hf,Cs hk]
theorem QO(l:List bB)(v:bB)(hl:l.length<=4294967296)(hok:∀a∈l,iA a)(hs:lN l) :
  a8 prog [] 132 [.il 4 (aT l),bT v] (.tup [.int .i64 (Go.Ax.d9 l v).1,.bool (Go.Ax.d9 l v).2]):=by
 obtain⟨vk,vn,vs,vks⟩:=v;have nl:NN (.il 4 (aT l)):=.il' (aV l);have nf:NN (.fn (.func 136) [] []):=.fn _ _ _ (by simp) (by simp);have nt:∀(k:Int) (b:Bool),NN (.tup [.int .i64 k,.bool b]):=fun k b=>.tup' (.cons (.int _ _) (.cons (.bool _) .nil))
 refine fQ bC func132 rfl ?_
 conv=>whnf
 refine(Mw l (.mk vk vn vs vks) hl hok hs).use bC (.cons nl (.cons (bM _) (.cons nf .nil))) (nt _ _) ?_
 conv=>whnf
 exact aA (nt _ _) ⟨rfl,rfl,rfl⟩
end Go.Proofs.YthempfhilcmfnaaGreat
namespace Go.Ax
open Go
mutual
def bH:bB->Nat
 | .mk _ _ _ kids=>1+cQ kids
def cQ:List bB->Nat
 | []=>0
 | v::r=>bH v+cQ r
end
mutual
def gZ:bB->Nat
 | .mk _ _ _ kids=>fI kids+1
def fI:List bB->Nat
 | []=>0
 | v::r=>max (gZ v) (fI r)
end
theorem vW:∀(l:List bB) (v:bB),cQ (l++[v])=cQ l+bH v
 | [],v=>by simp[cQ]
 | a::r,v=>by simp only[Sr,cQ,vW r v];omega
theorem yB:∀(l m:List bB),cQ (l++m)=cQ l+cQ m
 | [],v=>by simp[cQ]
 | a::r,v=>by simp only[Sr,cQ,yB r v];omega
theorem AL:∀(l:List bB) (v:bB),fI (l++[v])=max (fI l) (gZ v)
 | [],v=>by simp[fI]
 | a::r,v=>by simp only[Sr,fI,AL r v];omega
theorem DM:∀v:bB,1<=bH v
 | .mk _ _ _ kids=>by simp only[bH];omega
theorem vO{l:List bB}{k:Nat}(h:k<l.length):cQ (l.take (k+1))=cQ (l.take k)+bH l[k]:=by
 rw[Rv h,vW]
theorem F8{l:List bB}{k:Nat}(h:k<l.length):fI (l.take (k+1))=max (fI (l.take k)) (gZ l[k]):=by
 rw[Rv h,AL]
theorem o0(l:List bB)(k:Nat):cQ (l.take k)<=cQ l:=by
 have:=yB (l.take k) (l.drop k);rw[SW] at this;omega
theorem JS{l:List bB}{v:bB}(h:v∈l):bH v<=cQ l:=by
 induction l with
 | nil=>cases h
 | cons a r ih=>
  simp only[cQ];rcases Rz.1 h with rfl|h
  ·omega
  ·have:=ih h;omega
theorem zE(l:List bB):l.length<=cQ l:=by
 induction l with
 | nil=>simp
 | cons a r ih=>simp only[cQ,Sa];have:=DM a;omega
mutual
theorem oX:∀v:bB,gZ v<=bH v
 | .mk _ _ _ kids=>by simp only[gZ,bH];have:=r8 kids;omega
theorem r8:∀l:List bB,fI l<=cQ l
 | []=>by simp[fI]
 | v::r=>by simp only[fI,cQ];have:=oX v;have:=r8 r;omega
end
def uM(c:Int):Bool:=(decide (97<=c) && decide (c<=122)) || (decide (65<=c) && decide (c<=90)) || (decide (48<=c) && decide (c<=57)) || decide (c=95)
def mX(c:Int):Bool:=decide (65<=c) && decide (c<=90)
def fA:List UInt8->Bool
 | []=>false
 | c::r=>decide (r.length<16) && mX c.toNat && r.all fun c=>uM c.toNat
theorem GD{c:Int}(h:mX c=true):uM c=true:=by
 simp[mX,uM] at *;omega
def cZ(k n:Int)(s:List UInt8)(len:Nat):Bool:=
 if k=0 then decide (s=[]) && decide (len=0)
 else if k=1 then(decide (n=0) || decide (n=1)) && decide (s=[]) && decide (len=0)
 else if k=2 then decide (n=0) && decide (s=[])
 else if k=3 then decide (n=0) && fA s
 else false
def uX(k:Int)(len:Nat):Bool:=decide (len<=256) && (decide (k≠3) || decide (len<=16))
mutual
def cJ:bB->Bool
 | .mk k n s kids=>cZ k n s kids.length && dR kids
def dR:List bB->Bool
 | []=>true
 | v::r=>cJ v && dR r
end
mutual
def C1:bB->Bool
 | .mk k _ _ kids=>uX k kids.length && Ao kids
def Ao:List bB->Bool
 | []=>true
 | v::r=>C1 v && Ao r
end
def x6(k:Int)(len:Nat):Bool:=(decide (k=2) && decide (256<len)) || (decide (k=3) && decide (16<len))
mutual
def mW:bB->Bool
 | .mk k _ _ kids=>x6 k kids.length || pR kids
def pR:List bB->Bool
 | []=>false
 | v::r=>mW v || pR r
end
theorem Hb{k n:Int}{s:List UInt8}{len:Nat}(h:cZ k n s len=true):x6 k len = !uX k len:=by
 rw[Sj];unfold cZ at h;simp only[x6,uX,Sv,Rr,SP,Bool.not_eq_true',TV,Ty,TD];repeat' split at h
 all_goals simp at h
 all_goals omega
mutual
theorem Di:∀v:bB,cJ v=true->mW v = !C1 v
 | .mk k n s kids,h=>by
  simp only[cJ,Rr] at h;rw[mW,C1,Hb h.1,A0 kids h.2,Bool.not_and]
theorem A0:∀l:List bB,dR l=true->pR l = !Ao l
 | [],_=>rfl
 | v::r,h=>by
  simp only[dR,Rr] at h;rw[pR,Ao,Di v h.1,A0 r h.2,Bool.not_and]
end
def fW(v:bB):Int:=if cJ v=false then 1 else if mW v=true∨1024<bH v then 4 else 0
theorem m9{l:List bB}{k:Nat}(h:k<l.length):dR (l.take (k+1))=(dR (l.take k) && cJ l[k]):=by
 rw[Rv h];generalize l.take k=m
 induction m with
 | nil=>simp[dR]
 | cons a r ih=>simp only[Sr,dR,ih,UK]
theorem HY{l:List bB}{k:Nat}(h:k<l.length):pR (l.take (k+1))=(pR (l.take k) || mW l[k]):=by
 rw[Rv h];generalize l.take k=m
 induction m with
 | nil=>simp[pR]
 | cons a r ih=>simp only[Sr,pR,ih,Bool.or_assoc]
theorem mP:∀{l:List bB} {v:bB},v∈l->cJ v=false->dR l=false
 | a::r,v,h,hf=>by
  simp only[dR];rcases Rz.1 h with rfl|h
  ·rw[hf];rfl
  ·rw[mP h hf];simp
theorem Dj:∀{l:List bB} {v:bB},v∈l->mW v=true->pR l=true
 | a::r,v,h,hf=>by
  simp only[pR];rcases Rz.1 h with rfl|h
  ·rw[hf];rfl
  ·rw[Dj h hf];simp
mutual
def mV{S:Type}(st:S->bB->Nat->Bool × S):bB->Nat->S->Bool × S
 | .mk k n s kids,d,x=>match st x (.mk k n s kids) d with
  | (false,y)=>(false,y)
  | (true,y)=>oF st kids (d+1) y
def oF{S:Type}(st:S->bB->Nat->Bool × S):List bB->Nat->S->Bool × S
 | [],_,x=>(true,x)
 | v::r,d,x=>match mV st v d x with
  | (false,y)=>(false,y)
  | (true,y)=>oF st r d y
end
def dM(x:Nat × Bool × Bool)(v:bB)(_:Nat):Bool × (Nat × Bool × Bool):=
 match v with
 | .mk k n s kids=>(x.2.1 && cZ k n s kids.length,(x.1+1,x.2.1 && cZ k n s kids.length,x.2.2 && uX k kids.length))
mutual
theorem C8:∀(v:bB) (d n:Nat) (sm:Bool),∃n',mV dM v d (n,true,sm)=(cJ v,(n',cJ v,if cJ v then sm && C1 v else(mV dM v d (n,true,sm)).2.2.2))/\n'<=n+bH v/\(cJ v=true->n'=n+bH v)
 | .mk k m s kids,d,n,sm=>by
  cases hf:cZ k m s kids.length with
  | false=>
   refine⟨n+1, ?_,by simp only[bH];omega,fun h=>?_⟩
   ·simp only[mV,dM,hf,Tz,cJ,Uf,TX,if_false]
   ·simp[cJ,hf] at h
  | true=>
   obtain⟨n',h1,h2,h3⟩:=BB kids (d+1) (n+1) (sm && uX k kids.length);refine⟨n', ?_,by simp only[bH];omega,fun h=>?_⟩
   ·simp only[mV,dM,hf,Bool.and_true,cJ,Tv];rw[h1];cases dR kids with
    | true=>simp[C1,UK]
    | false=>simp
   ·simp only[cJ,hf,Tv] at h;rw[h3 h];simp only[bH];omega
theorem BB:∀(l:List bB) (d n:Nat) (sm:Bool),∃n',oF dM l d (n,true,sm)=(dR l,(n',dR l,if dR l then sm && Ao l else(oF dM l d (n,true,sm)).2.2.2))/\n'<=n+cQ l/\(dR l=true->n'=n+cQ l)
 | [],d,n,sm=>⟨n,by simp[oF,dR,Ao],by simp,fun _=>by simp[cQ]⟩
 | v::r,d,n,sm=>by
  obtain⟨n1,h1,h2,h3⟩:=C8 v d n sm;cases hf:cJ v with
  | false=>
   rw[hf] at h1;refine⟨n1, ?_,by simp only[cQ];omega,fun h=>?_⟩
   ·simp only[oF,dR,hf,Uf,TX,if_false];rw[h1]
   ·simp[dR,hf] at h
  | true=>
   rw[hf] at h1;simp only[if_true] at h1;obtain⟨n2,g1,g2,g3⟩:=BB r d n1 (sm && C1 v);refine⟨n2, ?_,by simp only[cQ];omega,fun h=>?_⟩
   ·simp only[oF,dR,hf,Tv];rw[h1];simp only;rw[g1];cases dR r with
    | true=>simp[Ao,UK]
    | false=>simp
   ·simp only[dR,hf,Tv] at h;rw[g3 h,h3 hf];simp only[cQ];omega
end
theorem JF(v:bB):(match (mV dM v 1 (0,true,true)).2 with|(n,good,small)=>if good=false then(1:Int) else if small=false∨1024<n then 4 else 0)=fW v:=by
 obtain⟨n',h1,h2,h3⟩:=C8 v 1 0 true;rw[h1];unfold fW;cases hf:cJ v with
 | false=>simp
 | true=>
  rw[Di v hf,h3 hf];simp
theorem gQ{k n:Int}(hk:i64 k)(hn:i64 n):iA (.mk k n [] []):=by
 simp only[iA,yZ];exact⟨hk,hn,by simp,by simp,trivial⟩
theorem jJ{n:Int}{l:List bB}{k:Int}{s:List UInt8}(hk:i64 k)(hn:i64 n)(hs:s.length<=4294967296)(hl:l.length<=4294967296)(h:yZ l):iA (.mk k n s l):=by
 simp only[iA];exact⟨hk,hn,hs,hl,h⟩
theorem zJ(l:List bB)(i:Nat)(v:bB):aT (l.set i v)=(aT l).set i (bT v):=by simp[fK,Ti]
theorem vH{s:List UInt8}{a:UInt8}(h0:s[0]? = some a)(hl:s.length<=16)(hu:mX a.toNat=true)(hall:∀(j:Nat) (c:UInt8),s[j]? = some c->uM c.toNat=true):fA s=true:=by
 cases s with
 | nil=>simp at h0
 | cons b r=>
  simp at h0;subst h0;simp only[fA,Rr,SP,S5];refine⟨⟨by simp at hl;omega,hu⟩,fun c hc=>?_⟩;obtain⟨j,hj⟩:=Sb hc;exact hall (j+1) c (by simpa using hj)
theorem sR{s:List UInt8}(h:s.length<1):fA s=false:=by
 cases s with
 | nil=>rfl
 | cons b r=>simp at h
theorem qN{s:List UInt8}(h:16<s.length):fA s=false:=by
 cases s with
 | nil=>rfl
 | cons b r=>simp only[fA];simp at h;rw[R4 (by omega)];rfl
theorem jU{s:List UInt8}{a:UInt8}(h0:s[0]? = some a)(hu:mX a.toNat=false):fA s=false:=by
 cases s with
 | nil=>rfl
 | cons b r=>simp at h0;subst h0;simp only[fA];rw[hu];simp
theorem vI{s:List UInt8}{j:Nat}{c:UInt8}(h:s[j]? = some c)(hc:uM c.toNat=false):fA s=false:=by
 cases s with
 | nil=>rfl
 | cons b r=>
  cases j with
  | zero=>
   simp at h;subst h;refine jU (a:=b) rfl ?_;cases hu:mX b.toNat with
   | false=>rfl
   | true=>rw[GD hu] at hc;cases hc
  | succ j=>
   simp only[fA];have:(r.all fun c=>uM c.toNat)=false:=by
    rw[TS];intro hall;rw[S5] at hall;have:=hall c (R3 (by simpa using h));rw[hc] at this;cases this
   rw[this];simp
mutual
def wU(g:Nat->Nat->Nat):bB->Nat->Nat->Nat
 | .mk _ _ _ kids,d,x=>sP g kids (d+1) (g x d)
def sP(g:Nat->Nat->Nat):List bB->Nat->Nat->Nat
 | [],_,x=>x
 | v::r,d,x=>sP g r d (wU g v d x)
end
theorem DO(g:Nat->Nat->Nat):∀(l:List bB) (v:bB) (d x:Nat),sP g (l++[v]) d x=wU g v d (sP g l d x)
 | [],v,d,x=>by simp[sP]
 | a::r,v,d,x=>by simp only[Sr,sP];exact DO g r v d _
theorem I9(g:Nat->Nat->Nat){l:List bB}{k:Nat}(h:k<l.length)(d x:Nat):sP g (l.take (k+1)) d x=wU g l[k] d (sP g (l.take k) d x):=by
 rw[Rv h,DO]
mutual
theorem Na{g:Nat->Nat->Nat}(hg:∀n d,g n d<=max (n+1) d):∀(v:bB) (d n:Nat),wU g v d n<=max n (d+gZ v)+bH v
 | .mk k m s kids,d,n=>by
  simp only[wU,gZ,bH];have h1:=hg n d;have h2:=EZ hg kids (d+1) (g n d);omega
theorem EZ{g:Nat->Nat->Nat}(hg:∀n d,g n d<=max (n+1) d):∀(l:List bB) (d n:Nat),sP g l d n<=max n (d+fI l)+cQ l
 | [],d,n=>by simp only[sP];omega
 | v::r,d,n=>by
  simp only[sP,fI,cQ];have h1:=Na hg v d n;have h2:=EZ hg r d (wU g v d n);omega
end
mutual
theorem E7:∀(v:bB) (d n:Nat),wU (fun n _=>n+1) v d n=n+bH v
 | .mk k m s kids,d,n=>by simp only[wU,bH];rw[Cl];omega
theorem Cl:∀(l:List bB) (d n:Nat),sP (fun n _=>n+1) l d n=n+cQ l
 | [],d,n=>by simp[sP,cQ]
 | v::r,d,n=>by simp only[sP,cQ];rw[E7,Cl];omega
end
theorem Ct{S:Type}(st:S->bB->Nat->Bool × S):∀(l:List bB) (v:bB) (d:Nat) (x:S),oF st (l++[v]) d x=match oF st l d x with|(false,y)=>(false,y)|(true,y)=>mV st v d y
 | [],v,d,x=>by
  simp only[SY,oF];cases mV st v d x with|mk b y=>cases b<;>rfl
 | a::r,v,d,x=>by
  simp only[Sr,oF];cases mV st a d x with
  | mk b y=>cases b with
   | false=>rfl
   | true=>exact Ct st r v d y
theorem Jd{S:Type}(st:S->bB->Nat->Bool × S){l:List bB}{k:Nat}(h:k<l.length)(d:Nat)(x y:S)(hx:oF st (l.take k) d x=(true,y)):oF st (l.take (k+1)) d x=mV st l[k] d y:=by
 rw[Rv h,Ct,hx]
theorem DY{S:Type}(st:S->bB->Nat->Bool × S):∀{l m:List bB} {d:Nat} {x y:S},oF st l d x=(false,y)->oF st (l++m) d x=(false,y)
 | [],m,d,x,y,h=>by simp[oF] at h
 | a::r,m,d,x,y,h=>by
  simp only[oF] at h;simp only[Sr,oF];cases he:mV st a d x with
  | mk b z=>
   rw[he] at h;cases b with
   | false=>simpa using h
   | true=>exact DY st h
theorem wK:∀{l:List bB} {v:bB},v∈l->gZ v<=fI l
 | a::r,v,h=>by
  simp only[fI];rcases Rz.1 h with rfl|h
  ·omega
  ·have:=wK h;omega
theorem uR:∀(l m:List bB),fI (l++m)=max (fI l) (fI m)
 | [],m=>by simp[fI]
 | a::r,m=>by simp only[Sr,fI,uR r m];omega
theorem At(l:List bB)(k:Nat):fI (l.take k)<=fI l:=by
 have:=uR (l.take k) (l.drop k);rw[SW] at this;omega
mutual
theorem Nj:∀(v:bB) (d:Nat) (x:Nat × Bool × Bool),(mV dM v d x).2.1<=x.1+bH v
 | .mk k n s kids,d,x=>by
  simp only[mV,dM,bH];split
  ·rename_i h;simp only[Prod.mk.injEq] at h;rw[←h.2];simp only;omega
  ·rename_i h;simp only[Prod.mk.injEq] at h;rw[←h.2];have:=A1 kids (d+1) (x.1+1,x.2.1 && cZ k n s kids.length,x.2.2 && uX k kids.length);simp only at this;omega
theorem A1:∀(l:List bB) (d:Nat) (x:Nat × Bool × Bool),(oF dM l d x).2.1<=x.1+cQ l
 | [],d,x=>by simp[oF]
 | v::r,d,x=>by
  simp only[oF,cQ];have h1:=Nj v d x;split
  ·rename_i y h;rw[h] at h1;simp only at h1 ⊢;omega
  ·rename_i y h;rw[h] at h1;have:=A1 r d y;simp only at h1;omega
end
structure Nd where
 kind:Int
 name:List UInt8
 lo:Int
 hi:Int
 weights:List Int
 labels:List (List UInt8)
 values:List bB
 kids:List Int
 value:bB
def CF(l:List (List UInt8)):List AV:=l.map AV.str
def bU(x:Nd):AV:=
 match x.value with
 | .mk k n s ks=>.agg [.int .i64 x.kind,.str x.name,.int .i64 x.lo,.int .i64 x.hi,.il 1 (aI x.weights),.il 1 (CF x.labels),.il 4 (aT x.values),.il 1 (aI x.kids),.int .i64 k,.int .i64 n,.str s,.il 4 (aT ks)]
def aR(l:List Nd):List AV:=l.map bU
theorem Ae(l:List (List UInt8)):g9 (CF l):=fun a ha=>by
 obtain⟨n,_,rfl⟩:=SJ.1 ha;exact .str _
theorem bX(l:List (List UInt8)):(CF l).length=l.length:=by rw[CF,TO]
theorem aW(x:Nd):NN (bU x):=by
 unfold bU;split;exact .agg' (.cons (.int _ _) (.cons (.str _) (.cons (.int _ _) (.cons (.int _ _) (.cons (.il' (aG _)) (.cons (.il' (Ae _)) (.cons (.il' (aV _)) (.cons (.il' (aG _)) (.cons (.int _ _) (.cons (.int _ _) (.cons (.str _) (.cons (.il' (aV _)) .nil))))))))))))
theorem aQ(l:List Nd):g9 (aR l):=fun a ha=>by
 obtain⟨n,_,rfl⟩:=SJ.1 ha;exact aW n
theorem bD(l:List Nd):(aR l).length=l.length:=by rw[aR,TO]
theorem nJ(l:List Nd)(i:Nat):(aR l)[i]? = (l[i]?).map bU:=by rw[aR,So]
structure rL(x:Nd):Prop where
 kind:i64 x.kind
 name:x.name.length<=4294967296
 lo:i64 x.lo
 hi:i64 x.hi
 weights:x.weights.length<=4294967296
 weightsI:∀w∈x.weights,i64 w
 labels:x.labels.length<=4294967296
 labelsI:∀w∈x.labels,w.length<=4294967296
 values:x.values.length<=4294967296
 valuesI:∀v∈x.values,iA v/\bH v<=4294967296
 kids:x.kids.length<=4294967296
 kidsI:∀k∈x.kids,i64 k
 value:iA x.value
 valueS:bH x.value<=4294967296
def Bh:bB->Bool
 | .mk k n s ks=>decide (k=0) && decide (n=0) && decide (s=[]) && decide (ks.length=0)
def iI(x:Nd):Bool:=
 (decide (x.kind=0) || Bh x.value) && (decide (x.kind=1) || (decide (x.lo=0) && decide (x.hi=0))) && (decide (x.kind=3) || decide (x.name=[])) &&
 (decide (x.kind=2) || (decide (x.weights.length=0) && decide (x.labels.length=0))) && (decide (x.kind=4) || decide (x.values.length=0)) && ((decide (x.kind≠0) && decide (x.kind≠1)) || decide (x.kids.length=0))
def eE:List bB->Bool
 | a::b::r=>decide (cN a b<0) && eE (b::r)
 | _=>true
def mS(i:Int)(l:List Int):Bool:=l.all fun k=>decide (0<=k) && decide (k<i)
def cV(i:Int)(x:Nd):Bool:=
 iI x && (decide (0<=x.kind) && decide (x.kind<=4)) && mS i x.kids &&
 (decide (x.kind≠2) || (decide (1<=x.kids.length) && decide (x.kids.length<=256) && decide (x.weights.length=x.kids.length) && (decide (x.labels.length=0) || decide (x.labels.length=x.kids.length)))) &&
 (decide (x.kind≠3) || (decide (x.kids.length<=256) && (decide (x.name=[]) || (fA x.name && decide (x.kids.length<=16))))) &&
 (decide (x.kind≠4) || decide (x.kids.length=x.values.length+1)) && eE x.values
def dW(x:Nd):Bool:=
 decide (x.lo<=x.hi) && decide (-4611686018427387904<=x.lo) && decide (x.hi<=4611686018427387904) && decide (x.hi<x.lo+1099511627776) && x.weights.all fun w=>decide (1<=w) && decide (w<=1000)
def eQ:List bB->Int
 | []=>0
 | v::r=>if fW v≠0 then fW v else eQ r
def oI(x:Nd):List bB:=(if x.kind=0 then [x.value] else [])++x.values
def fE(i:Int)(x:Nd):Int:=
 if cV i x=false then 1 else if eQ (oI x)≠0 then eQ (oI x) else if dW x=false then 5 else 0
def d7(l:List Int)(k:Int):Int:=l.getD k.toNat 0
def fC(before kids:List Int):Int:=kids.foldl (fun s k=>s+d7 before k) 0
def cR(before kids:List Int):Int:=kids.foldl (fun s k=>max s (d7 before k)) 0
def dX(x:Nd):List Int:=if x.kind=2 then x.kids else x.kids.drop 1
def eU(before:List Int)(x:Nd):Int:=
 if x.kind=0 then 0 else if x.kind=1 then 1 else if x.kind=3 then fC before x.kids else if x.kind=2 then 1+cR before (dX x) else d7 before (x.kids.getD 0 0)+cR before (dX x)
def jY(before:List Int)(x:Nd):Int:=
 if x.kind=0 then bH x.value else if x.kind=1 then 1 else if x.kind=3 then 1+fC before x.kids else cR before (dX x)
structure gR where
 vals:List bB
 many:Bool
def dJ(name:List UInt8)(kids:List bB):bB:=if name=[] then .mk 2 0 [] kids else .mk 3 0 name kids
def c9(l:List gR)(k:Int):gR:=l.getD k.toNat ⟨[],false⟩
def gX(lo hi:Int):List bB:=(List.range (hi+1-lo).toNat).map fun i:Nat=>.mk 0 (lo+(i:Int)) [] []
def bS(before:List gR)(x:List bB × Bool)(k:Int):List bB × Bool:=
 (eJ (x.1++(c9 before k).vals),x.2 || (c9 before k).many || decide (1024<(eJ (x.1++(c9 before k).vals)).length))
def lH(before:List gR)(kids:List Int):gR:=
 if (kids.foldl (bS before) ([],false)).2 then⟨[],true⟩ else⟨(kids.foldl (bS before) ([],false)).1,false⟩
def gE(rows:List (List bB))(l:List bB):List (List bB):=rows.flatMap fun r=>l.map fun v=>r++[v]
def e6(before:List gR):List Int->List (List bB)->Option (List (List bB))
 | [],rows=>some rows
 | k::r,rows=>if (c9 before k).many=true∨1024<rows.length*(c9 before k).vals.length then none else e6 before r (gE rows (c9 before k).vals)
def oK(before:List gR)(x:Nd):gR:=
 match e6 before x.kids [[]] with
 | none=>⟨[],true⟩
 | some rows=>⟨eJ (rows.map (dJ x.name)),false⟩
def cW(x:Nd)(before:List gR):gR:=
 if x.kind=0 then⟨[x.value],false⟩
 else if x.kind=1 then(if 1024<=x.hi-x.lo then⟨[],true⟩ else⟨gX x.lo x.hi,false⟩)
 else if x.kind=3 then oK before x
 else lH before (if x.kind=4 then x.kids.drop 1 else x.kids)
def aP(nodes:List Nd):List gR:=nodes.foldl (fun out x=>out++[cW x out]) []
def dU:List bB->List bB->Bool
 | [],[]=>true
 | a::l,b::m=>decide (cN a b=0) && dU l m
 | _,_=>false
def e8(nodes:List Nd)(x:Nd):Int:=
 let l:=c9 (aP (nodes.take ((x.kids.getD 0 0).toNat+1))) (x.kids.getD 0 0)
 if l.many=true then 4 else if dU l.vals x.values=true then 0 else 1
def gJ(before:List Nd)(ls ss:List Int)(x:Nd):Int:=
 if fE before.length x≠0 then fE before.length x
 else if 256<eU ls x∨1024<jY ss x then 4
 else if x.kind=4 then e8 before x else 0
def aX(nodes:List Nd):List Int:=nodes.foldl (fun ls x=>ls++[eU ls x]) []
def cM(nodes:List Nd):List Int:=nodes.foldl (fun ls x=>ls++[jY ls x]) []
def b9:List Nd->List Nd->Int
 | _,[]=>0
 | before,x::r=>if gJ before (aX before) (cM before) x≠0 then gJ before (aX before) (cM before) x else b9 (before++[x]) r
def cP(nodes:List Nd):Int:=if 4096<nodes.length then 4 else b9 [] nodes
theorem fJ:∀(b l:List Nd) (x:Nd),b9 b l=0->b9 b (l++[x])=gJ (b++l) (aX (b++l)) (cM (b++l)) x
 | b,[],x,h=>by
  simp only[SY,b9,Sh];split
  ·rfl
  ·rename_i h1;simpa using (Eq.symm (Decidable.not_not.1 h1))
 | b,y::r,x,h=>by
  simp only[Sr,b9] at h ⊢;split at h
  ·rename_i h1;exact absurd h h1
  ·rename_i h1;rw[Rp h1,fJ (b++[y]) r x h];simp
theorem gC(l:List Nd)(x:Nd):aX (l++[x])=aX l++[eU (aX l) x]:=by simp[aX]
theorem j7(l:List Nd)(x:Nd):cM (l++[x])=cM l++[jY (cM l) x]:=by simp[cM]
theorem gV(l:List Nd)(x:Nd):aP (l++[x])=aP l++[cW x (aP l)]:=by simp[aP]
def jM(n most:Int):Int:=(if n<0 then -(n+1) else n).tmod most
def gB(l:List Int)(i most:Int):Int:=if i<0∨(l.length:Int)<=i then 0 else jM (l.getD i.toNat 0) most
theorem iD{n most:Int}(h:1<=most):0<=jM n most/\jM n most<most:=by
 unfold jM;have h0:0<=(if n<0 then -(n+1) else n):=by split<;>omega
 exact⟨Tf _ h0,TY _ (by omega)⟩
theorem eG{l:List Int}{i most:Int}(h:1<=most):0<=gB l i most/\gB l i most<most:=by
 unfold gB;split
 ·omega
 ·exact iD h
def uO(k:Int):bB:=
 if k.tmod 4=0 then .mk 0 ((k.tdiv 4).tmod 9-4) [] []
 else if k.tmod 4=1 then .mk 1 ((k.tdiv 4).tmod 2) [] []
 else if k.tmod 4=2 then .mk 3 0 (([[76,101,97,102],[82,101,100],[88]]:List (List UInt8)).getD ((k.tdiv 4).tmod 3).toNat []) []
 else .mk 2 0 [] [.mk 0 ((k.tdiv 4).tmod 3) [] []]
def kidI(l:List Int)(i j:Int):Int:=
 if (gB l (3*i+j+2) 1000000).tmod 3=0 then((gB l (3*i+j+2) 1000000).tdiv 3).tmod i else max 0 (i-1-((gB l (3*i+j+2) 1000000).tdiv 3).tmod 3)
theorem jS:∀{l:List bB},(∀(j:Nat) (a b:bB),l[j]? = some a->l[j+1]? = some b->cN a b<0)->eE l=true
 | [],_=>rfl
 | [a],_=>rfl
 | a::b::r,h=>by
  simp only[eE,Rr,SP];exact⟨h 0 a b rfl rfl,jS fun j x y hx hy=>h (j+1) x y (by simpa using hx) (by simpa using hy)⟩
theorem jR:∀{l:List bB},eE l=true->∀(j:Nat) (a b:bB),l[j]? = some a->l[j+1]? = some b->cN a b<0
 | [],_,j,a,b,h1,h2=>by simp at h1
 | [x],_,j,a,b,h1,h2=>by simp at h2
 | x::y::r,h,j,a,b,h1,h2=>by
  simp only[eE,Rr,SP] at h;cases j with
  | zero=>simp at h1 h2;subst h1 h2;exact h.1
  | succ j=>exact jR h.2 j a b (by simpa using h1) (by simpa using h2)
theorem eP{i:Int}{l:List Int}:mS i l=true↔∀(j:Nat) (k:Int),l[j]? = some k->0<=k/\k<i:=by
 simp only[mS,S5,Rr,SP];constructor
 ·intro h j k hj;exact h k (R3 hj)
 ·intro h k hk;obtain⟨j,hj⟩:=Sb hk;exact h j k hj
theorem BL:∀{l m:List bB},l.length≠m.length->dU l m=false
 | [],[],h=>absurd rfl h
 | [],_::_,_=>rfl
 | _::_,[],_=>rfl
 | a::l,b::m,h=>by
  rw[dU,BL (l:=l) (m:=m) (by simpa using h),Tz]
theorem tP{b l:List Int}{k:Nat}(h:k<l.length):fC b (l.take (k+1))=fC b (l.take k)+d7 b l[k]:=by
 unfold fC;rw[Rv h,S0];rfl
theorem p5{b l:List Int}{k:Nat}(h:k<l.length):cR b (l.take (k+1))=max (cR b (l.take k)) (d7 b l[k]):=by
 unfold cR;rw[Rv h,S0];rfl
theorem oC{b l:List Int}{k:Nat}(h:k<l.length)(hk:0<k):cR b ((l.take (k+1)).drop 1)=max (cR b ((l.take k).drop 1)) (d7 b l[k]):=by
 rw[Rv h,Tq (by simp;omega)];simp[cR]
theorem mA{b:List Int}{M:Int}(hM:0<=M)(h:∀x∈b,0<=x/\x<=M)(q:Int):0<=d7 b q/\d7 b q<=M:=by
 unfold d7;rw[Rn];cases hq:b[q.toNat]? with
 | none=>simp;omega
 | some x=>exact h x (R3 hq)
theorem nH(b:List Int):∀(l:List Int) (s:Int),l.foldl (fun s k=>s+d7 b k) s=s+fC b l
 | [],s=>by simp[fC]
 | a::r,s=>by
  simp only[Sd,fC];rw[nH b r,nH b r (0+d7 b a)];simp[fC];omega
theorem iO{b:List Int}{M:Int}(hM:0<=M)(h:∀x∈b,0<=x/\x<=M):∀l:List Int,0<=fC b l/\fC b l<=l.length*M
 | []=>by simp[fC]
 | a::r=>by
  have h1:=iO hM h r;have h2:=mA hM h a;have e:fC b (a::r)=d7 b a+fC b r:=by simp only[fC,Sd];rw[nH b r];simp[fC]
  rw[e];simp only[Sa];have:((r.length+1:Nat):Int)*M=r.length*M+M:=by rw[Int.natCast_add,Int.add_mul];simp
  omega
theorem DR(b:List Int){M:Int}(h:∀q,0<=d7 b q/\d7 b q<=M):∀(l:List Int) (s:Int),0<=s->s<=M->0<=l.foldl (fun s k=>max s (d7 b k)) s/\l.foldl (fun s k=>max s (d7 b k)) s<=M
 | [],s,h1,h2=>⟨h1,h2⟩
 | a::r,s,h1,h2=>by
  have:=h a;simp only[Sd];exact DR b h r (max s (d7 b a)) (by omega) (by omega)
theorem gA{b:List Int}{M:Int}(hM:0<=M)(h:∀x∈b,0<=x/\x<=M)(l:List Int):0<=cR b l/\cR b l<=M:=
 DR b (mA hM h) l 0 (by omega) hM
theorem aM.useApp{P:Program}{Γ:List (Nat × AV)}{F:FuncId}{args args':List AV}{mem:aS}{nx:Nat}{t:TypeId}{sz:Nat}{xs:List AV}{R:Nat->List AV->Prop}{K:AV->aS->Nat->Prop}(hΓ:∀p∈Γ,NN p.2)
  (h:aM P Γ F args' [(0,.row t sz xs)] 1 fun r m _=>∃(len:Nat) (ys:List AV),r = .sl 1 0 len/\m=[(1,.row t sz ys)]/\g9 ys/\R len ys) (g:Nat) (hg:lk mem g=some (.row t sz xs)) (hx:g9 xs) (hargs:iL [(g,.row t sz xs)] [(g,0)] args args')
  (hk:∀len ys,R len ys->Dq g mem fun rest=>K (.sl nx 0 len) ((nx,.row t sz ys)::rest) (nx+1)):aM P Γ F args mem nx K:=by
 refine⟨fun X D ρ w vs hD hm hv=>?_⟩;refine(aM.use (K:=K) (nx:=nx) hΓ h [(g,0)] (m1:=[(g,.row t sz xs)]) (rest:=drop g mem) ⟨fun p hp=>?_,fun p hp=>dB hp,fun p hp=>?_,fun p hp q hq=>?_,by simp⟩ (jV hm.nod) hargs (fun p hp=>?_) (by simp) (kW (by rfl)) (fun id i hl=>?_) ?_).run X D ρ w vs hD hm hv
 ·simp at hp;subst hp;exact bI hg
 ·by_cases hpg:p.1=g
  ·left;have:=pU hm.nod hp (bI hg) hpg;rw[this];simp
  ·exact .inr (sE hp hpg)
 ·simp at hp;subst hp;exact Ne.symm (pW hm.nod hq)
 ·simp at hp;subst hp;exact .inl ⟨g,t,sz,xs,xs,rfl,by simp[lk],by simp[lk],.same hx⟩
 ·have:=bI hl;simp at this;omega
 ·rintro r m n ⟨len,ys,rfl,rfl,hn,hR⟩ _;refine⟨[(1,nx)],.sl nx 0 len,[(nx,.row t sz ys)],nx+1,Tp _,.sl 1 nx 0 len (by simp[lk]),fun p hp=>?_,by simp,kW (by rfl),fun i id hl=>?_,fun p hp q hq=>?_,uF.1 (hk len ys hR)⟩
  ·simp at hp;subst hp;exact .inl ⟨1,t,sz,ys,ys,rfl,by simp[lk],by simp[lk],.same hn⟩
  ·have:=bI hl;simp at this;obtain⟨rfl,rfl⟩:=this;exact .inr ⟨R2 _,R2 _,TH _⟩
  ·simp at hp;subst hp;have:=hD _ (hm.low q (dB hq));simp only;omega
def lG(x:gR):AV:=.agg [.il 4 (aT x.vals),.bool x.many]
def encLs(l:List gR):List AV:=l.map lG
theorem mE(x:gR):NN (lG x):=.agg' (.cons (.il' (aV _)) (.cons (.bool _) .nil))
theorem encLs_nn(l:List gR):g9 (encLs l):=fun a ha=>by
 obtain⟨n,_,rfl⟩:=SJ.1 ha;exact mE n
theorem encLs_length(l:List gR):(encLs l).length=l.length:=by rw[encLs,TO]
theorem encLs_get(l:List gR)(i:Nat):(encLs l)[i]? = (l[i]?).map lG:=by rw[encLs,So]
def qE(lo:Int)(k:Nat):List bB:=(List.range k).map fun i:Nat=>.mk 0 (lo+(i:Int)) [] []
theorem zU(lo:Int)(k:Nat):qE lo (k+1)=qE lo k++[.mk 0 (lo+(k:Int)) [] []]:=by simp[qE,T9]
theorem CM(lo:Int)(k:Nat):(qE lo k).length=k:=by simp[qE]
theorem aM.useNew{P:Program}{Γ:List (Nat × AV)}{F:FuncId}{args:List AV}{mem:aS}{nx:Nat}{t:TypeId}{sz len:Nat}{ys:List AV}{K:AV->aS->Nat->Prop}(hΓ:∀p∈Γ,NN p.2)
  (h:aM P Γ F args [] 0 fun r m n=>r = .sl 0 0 len/\m=[(0,.row t sz ys)]/\n=1) (ha:g9 args) (hn:g9 ys) (hk:K (.sl nx 0 len) ((nx,.row t sz ys)::mem) (nx+1)):aM P Γ F args mem nx K:=by
 refine⟨fun X D ρ w vs hD hm hv=>?_⟩;refine(aM.use (K:=K) (nx:=nx) hΓ h [] (m1:=[]) (rest:=mem) ⟨(fun p hp=>by cases hp),fun p hp=>hp,fun p hp=>.inr hp,(fun p hp=>by cases hp),by simp⟩ hm.nod (B4 ha) (fun p hp=>by cases hp) (by simp) (fun i j k h=>by simp[lk] at h) (fun id i h=>by simp[lk] at h) ?_).run X D ρ w vs hD hm hv;rintro r m n ⟨rfl,rfl,rfl⟩ _;refine⟨[(0,nx)],.sl nx 0 len,[(nx,.row t sz ys)],nx+1,Tp _,.sl 0 nx 0 len (by simp[lk]),fun p hp=>?_,by simp,kW (by rfl),fun i id hl=>?_,fun p hp q hq=>?_,hk⟩
 ·simp at hp;subst hp;exact .inl ⟨0,t,sz,ys,ys,rfl,by simp[lk],by simp[lk],.same hn⟩
 ·have:=bI hl;simp at this;obtain⟨rfl,rfl⟩:=this;exact .inr ⟨TC _,R2 _,TH _⟩
 ·simp at hp;subst hp;have:=hD _ (hm.low q hq);simp only;omega
theorem tJ{bs:List gR}(hb:∀b∈bs,b.vals.length<=1024/\∀v∈b.vals,iA v):∀(l:List Int) (a:List bB × Bool) (n:Nat),a.1.length<=n->(∀v∈a.1,iA v) ->
  (l.foldl (bS bs) a).1.length<=n+l.length*1024/\∀v∈(l.foldl (bS bs) a).1,iA v
 | [],a,n,h1,h2=>⟨by simpa using h1,h2⟩
 | q::r,a,n,h1,h2=>by
  have hq:(c9 bs q).vals.length<=1024/\∀v∈(c9 bs q).vals,iA v:=by
   unfold c9;rw[Rn];cases hc:bs[q.toNat]? with
   | none=>simp
   | some b=>exact hb b (R3 hc)
  have hs:=q7 (a.1++(c9 bs q).vals);simp only[Ro] at hs;have:=tJ hb r (bS bs a q) (n+1024) (by simp only[bS];omega) (fun v hv=>by
   have:=pJ hv;rcases R5.1 this with h|h
   ·exact h2 v h
   ·exact hq.2 v h)
  simp only[Sd,Sa];refine⟨by have:=this.1;omega,this.2⟩
theorem Hg{α β:Type}(f:β->α->β){l:List α}{k:Nat}(h:k<l.length)(a:β):(l.take (k+1)).foldl f a=f ((l.take k).foldl f a) l[k]:=by
 rw[Rv h,S0];rfl
theorem Hi{α β:Type}(f:β->α->β){l:List α}{k:Nat}(h:k<l.length)(hk:0<k)(a:β):((l.take (k+1)).drop 1).foldl f a=f (((l.take k).drop 1).foldl f a) l[k]:=by
 rw[Rv h,Tq (by simp;omega),S0];rfl
theorem d6{α:Type}{P:List α->Prop}(h0:P [])(h1:∀(l:List α) (x:α),P l->P (l++[x]))(l:List α):P l:=by
 rw[←TQ l]
 induction l.reverse with
 | nil=>exact h0
 | cons a r ih=>rw[Td];exact h1 _ _ ih
structure iN(i:Nat)(x:Nd):Prop where
 ok:rL x
 kind:0<=x.kind/\x.kind<=4
 kids:∀(j:Nat) (k:Int),x.kids[j]? = some k->0<=k/\k<i
 klen:x.kids.length<=65536
 num:dW x=true
def DA(bs:List gR):Prop:=∀b∈bs,b.vals.length<=1024/\∀v∈b.vals,iA v
theorem cA{x:Nd}(h:dW x=true):x.lo<=x.hi/\-4611686018427387904<=x.lo/\x.hi<=4611686018427387904/\x.hi<x.lo+1099511627776:=by
 unfold dW at h;simp only[Rr,SP] at h;exact⟨h.1.1.1.1,h.1.1.1.2,h.1.1.2,h.1.2⟩
theorem tW{rows:List (List bB)}{l:List bB}{r:List bB}(h:r∈gE rows l):∃r'∈rows,∃v∈l,r=r'++[v]:=by
 simp only[gE,T5,SJ] at h;obtain⟨r',h1,v,h2,rfl⟩:=h;exact⟨r',h1,v,h2,rfl⟩
theorem tS(l:List bB):∀rows:List (List bB),(gE rows l).length=rows.length*l.length
 | []=>by simp[gE]
 | r::rs=>by
  have:=tS l rs;simp only[gE,Tn,Ro,TO,Sa,Sf,Tc] at this ⊢;omega
theorem pM{bs:List gR}(hb:DA bs)(k:Int):(c9 bs k).vals.length<=1024/\∀v∈(c9 bs k).vals,iA v:=by
 unfold c9;rw[Rn];cases h:bs[k.toNat]? with
 | none=>simp
 | some b=>exact hb b (R3 h)
theorem CE{bs:List gR}(hb:DA bs):∀(kids:List Int) (rows out:List (List bB)) (n:Nat),rows.length<=1024->(∀r∈rows,r.length<=n/\∀v∈r,iA v)->e6 bs kids rows=some out->out.length<=1024/\∀r∈out,r.length<=n+kids.length/\∀v∈r,iA v
 | [],rows,out,n,h1,h2,h=>by
  simp only[e6] at h;cases h;exact⟨h1,fun r hr=>⟨by simpa using (h2 r hr).1,(h2 r hr).2⟩⟩
 | k::ks,rows,out,n,h1,h2,h=>by
  simp only[e6] at h;split at h
  ·cases h
  ·rename_i hc;rw[not_or] at hc;have hg:=pM hb k;obtain⟨a,b⟩:=CE hb ks _ out (n+1) (by rw[tS];omega) (fun r hr=>by
    obtain⟨r',h3,v,h4,rfl⟩:=tW hr;refine⟨by have:=(h2 r' h3).1;simp;omega,fun u hu=>?_⟩;rcases R5.1 hu with hu|hu
    ·exact(h2 r' h3).2 u hu
    ·simp at hu;rw[hu];exact hg.2 v h4) h
   exact⟨a,fun r hr=>⟨by have:=(b r hr).1;simp;omega,(b r hr).2⟩⟩
theorem I0{name:List UInt8}(hn:name.length<=4294967296){r:List bB}(hr:r.length<=4294967296)(ho:∀v∈r,iA v):iA (dJ name r):=by
 unfold dJ;split
 ·exact jJ ⟨by omega,by omega⟩ ⟨by omega,by omega⟩ (by simp) hr (qI ho)
 ·exact jJ ⟨by omega,by omega⟩ ⟨by omega,by omega⟩ hn hr (qI ho)
theorem Cf{bs:List gR}:∀(l:List Int) (a:List bB × Bool),(a.2=false->a.1.length<=1024)->(l.foldl (bS bs) a).2=false->(l.foldl (bS bs) a).1.length<=1024
 | [],a,h,h2=>h h2
 | k::r,a,h,h2=>by
  refine Cf r (bS bs a k) (fun h3=>?_) h2;simp only[bS,Ty,TD] at h3 ⊢;omega
theorem Ho{x:Nd}{i:Nat}{bs:List gR}(hx:iN i x)(hb:DA bs):(cW x bs).vals.length<=1024/\∀v∈(cW x bs).vals,iA v:=by
 unfold cW;have hnum:=cA hx.num;split
 ·exact⟨by simp,fun v hv=>by simp at hv;rw[hv];exact hx.ok.value⟩
 ·split
  ·split
   ·simp
   ·refine⟨by simp[gX];omega,fun v hv=>?_⟩;simp only[gX,SJ,Tl] at hv;obtain⟨j,hj,rfl⟩:=hv;exact gQ ⟨by omega,by omega⟩ ⟨by omega,by omega⟩
  ·split
   ·unfold oK;split
    ·simp
    ·rename_i rows hr;obtain⟨h1,h2⟩:=CE hb x.kids [[]] rows 0 (by simp) (by simp) hr;refine⟨by have:=q7 (rows.map (dJ x.name));simp at this ⊢;omega,fun v hv=>?_⟩;have:=pJ hv;obtain⟨r,hr2,rfl⟩:=SJ.1 this;have h3:=h2 r hr2;have:=hx.klen;exact I0 hx.ok.name (by omega) h3.2
   ·generalize (if x.kind=4 then x.kids.drop 1 else x.kids)=ks;unfold lH;split
    ·simp
    ·rename_i hm;have hm:(ks.foldl (bS bs) ([],false)).2=false:=by simpa using hm
     exact⟨Cf _ _ (by simp) hm,(tJ hb _ ([],false) 0 (by simp) (by simp)).2⟩
theorem eB(l:List Nd):(aP l).length=l.length:=by
 refine d6 (P:=fun l=>(aP l).length=l.length) rfl (fun l x ih=>?_) l;rw[gV];simp[ih]
theorem iQ(l:List Nd):(∀(i:Nat) (x:Nd),l[i]? = some x->iN i x)->DA (aP l):=by
 refine d6 (P:=fun l=>(∀(i:Nat) (x:Nd),l[i]? = some x->iN i x)->DA (aP l)) (fun _ b hb=>by simp[aP] at hb) (fun l x ih h=>?_) l;have h1:=ih fun i y hy=>h i y (by
  have:=(Rt.1 hy).1;rw[SG this];exact hy)
 have h2:=h l.length x (by simp);rw[gV];intro b hb;rcases R5.1 hb with hb|hb
 ·exact h1 b hb
 ·simp at hb;rw[hb];exact Ho h2 h1
theorem By:∀(b l r:List Nd),b9 b l=0->b9 b (l++r)=b9 (b++l) r
 | b,[],r,_=>by simp
 | b,y::l,r,h=>by
  simp only[Sr,b9] at h ⊢;split at h
  ·rename_i h1;exact absurd h h1
  ·rename_i h1;rw[Rp h1,By (b++[y]) l r h];simp
theorem iS{l r:List Nd}(h:b9 [] (l++r)=0):b9 [] l=0:=by
 have key:∀(l b:List Nd),b9 b (l++r)=0->b9 b l=0:=by
  intro l
  induction l with
  | nil=>intro b _;rfl
  | cons y l ih=>
   intro b h;simp only[Sr,b9] at h ⊢;split at h
   ·rename_i h1;exact absurd h h1
   ·rename_i h1;rw[Rp h1];exact ih _ h
 exact key l [] h
theorem s9{l r:List Nd}{x:Nd}(h:b9 [] l=0)(hs:gJ l (aX l) (cM l) x≠0):b9 [] (l++x::r)=gJ l (aX l) (cM l) x:=by
 rw[By _ _ _ h];simp only[SY,b9];rw[Rx hs]
theorem mG:∀{l m:List bB},dU l m=true->l.length=m.length
 | [],[],_=>rfl
 | a::l,b::m,h=>by
  simp only[dU,Rr] at h;simp[mG h.2]
 | [],b::m,h=>by simp[dU] at h
 | a::l,[],h=>by simp[dU] at h
structure EG(i:Nat)(x:Nd):Prop where
 kind:0<=x.kind/\x.kind<=4
 kids:∀(j:Nat) (k:Int),x.kids[j]? = some k->0<=k/\k<i
 num:dW x=true
 klen:x.kind≠4->x.kids.length<=256
 bind:x.kind=4->x.kids.length=x.values.length+1
theorem kQ{i:Nat}{x:Nd}(h:fE i x=0):EG i x:=by
 unfold fE at h;split at h
 ·omega
 ·rename_i hf;split at h
  ·rename_i h1;exact absurd h h1
  ·split at h
   ·omega
   ·rename_i hn;have hn:dW x=true:=by simpa using hn
    have hf:cV i x=true:=by simpa using hf
    unfold cV at hf;simp only[Rr,Sv,SP] at hf;obtain⟨⟨⟨⟨⟨⟨hu,hk⟩,hki⟩,h2⟩,h3⟩,h4⟩,_⟩:=hf;refine⟨hk,eP.1 hki,hn,fun hne=>?_,fun he=>by omega⟩;unfold iI at hu;simp only[Rr,Sv,SP] at hu;rcases(show x.kind=0∨x.kind=1∨x.kind=2∨x.kind=3 by omega) with e|e|e|e
    ·have:=hu.2;omega
    ·have:=hu.2;omega
    ·rcases h2 with h2|h2
     ·omega
     ·exact h2.1.1.2
    ·rcases h3 with h3|h3
     ·omega
     ·exact h3.1
theorem gD{before:List Nd}{ls ss:List Int}{x:Nd}(h:gJ before ls ss x=0):fE before.length x=0/\eU ls x<=256/\jY ss x<=1024/\(x.kind=4->e8 before x=0):=by
 unfold gJ at h;split at h
 ·rename_i h1;exact absurd h h1
 ·rename_i h1;split at h
  ·omega
  ·rename_i h2;rw[not_or] at h2;refine⟨by simpa using h1,by omega,by omega,fun e=>?_⟩;rw[Rx e] at h;exact h
theorem f9{α:Type}{l:List α}{n i:Nat}{x:α}(h:(l.take n)[i]? = some x):l[i]? = some x/\i<n:=by
 rw[ST] at h;split at h
 ·rename_i hi;exact⟨h,hi⟩
 ·cases h
theorem Jc{before:List Nd}{x:Nd}(hg:∀(j:Nat) (y:Nd),before[j]? = some y->iN j y)(h:e8 before x=0):x.values.length<=1024:=by
 unfold e8 at h;simp only at h;split at h
 ·omega
 ·split at h
  ·rename_i hs;have:=mG hs;have hgl:=iQ (before.take ((x.kids.getD 0 0).toNat+1)) fun i y hy=>hg i y (f9 hy).1
   have:=(pM hgl (x.kids.getD 0 0)).1;omega
  ·omega
theorem Jf{before:List Nd}{ls ss:List Int}{x:Nd}(hg:∀(j:Nat) (y:Nd),before[j]? = some y->iN j y)(ho:rL x)(h:gJ before ls ss x=0):iN before.length x:=by
 obtain⟨h1,h2,h3,h4⟩:=gD h;have hn:=kQ h1;refine⟨ho,hn.kind,hn.kids, ?_,hn.num⟩;by_cases e:x.kind=4
 ·have:=hn.bind e;have:=Jc hg (h4 e);omega
 ·have:=hn.klen e;omega
theorem jT(ns:List Nd)(ho:∀x∈ns,rL x)(h:b9 [] ns=0):∀(j:Nat) (x:Nd),ns[j]? = some x->iN j x:=by
 refine d6 (P:=fun ns=>(∀x∈ns,rL x)->b9 [] ns=0->∀(j:Nat) (x:Nd),ns[j]? = some x->iN j x) (fun _ _ j x hx=>by simp at hx) (fun l x ih ho h=>?_) ns ho h;have h1:=iS h;have ih:=ih (fun y hy=>ho y (SU _ hy)) h1;have hs:=fJ [] l x h1;rw[h] at hs;simp only[SY] at hs;have hg:=Jf ih (ho x (by simp)) hs.symm;intro j y hy;rcases R9 j l.length with hj|hj
 ·rw[SG hj] at hy;exact ih j y hy
 ·rw[SK hj] at hy;have e:j-l.length=0:=by
   have:=(Rt.1 hy).1;simp at this;omega
  rw[e] at hy;simp at hy;subst hy;obtain rfl:j=l.length:=by omega
  exact hg
theorem GM{ls:List Int}{x:Nd}(h:∀y∈ls,0<=y/\y<=1024):0<=eU ls x:=by
 have h1:=(iO (by omega) h x.kids).1;have h2:=(gA (by omega) h (dX x)).1;have h3:=(mA (by omega) h (x.kids.getD 0 0)).1;unfold eU;split
 ·omega
 ·split
  ·omega
  ·split
   ·exact h1
   ·split
    ·omega
    ·omega
theorem FI{ls:List Int}{x:Nd}(h:∀y∈ls,0<=y/\y<=1024):0<=jY ls x:=by
 have h1:=(iO (by omega) h x.kids).1;have h2:=(gA (by omega) h (dX x)).1;unfold jY;split
 ·omega
 ·split
  ·omega
  ·split
   ·omega
   ·exact h2
theorem g6(ns:List Nd)(h:b9 [] ns=0):(∀y∈aX ns,0<=y/\y<=1024)/\(∀y∈cM ns,0<=y/\y<=1024):=by
 refine d6 (P:=fun ns=>b9 [] ns=0->(∀y∈aX ns,0<=y/\y<=1024)/\(∀y∈cM ns,0<=y/\y<=1024)) (fun _=>by simp[aX,cM]) (fun l x ih h=>?_) ns h;have h1:=iS h;obtain⟨i1,i2⟩:=ih h1;have hs:=fJ [] l x h1;rw[h] at hs;simp only[SY] at hs;obtain⟨_,h2,h3,_⟩:=gD hs.symm;rw[gC,j7];have n1:=GM (x:=x) i1;have n2:=FI (x:=x) i2;constructor
 ·intro y hy;rcases R5.1 hy with hy|hy
  ·exact i1 y hy
  ·simp at hy;subst hy;omega
 ·intro y hy;rcases R5.1 hy with hy|hy
  ·exact i2 y hy
  ·simp at hy;subst hy;omega
theorem eY(l:List Nd):(aX l).length=l.length:=by
 refine d6 (P:=fun l=>(aX l).length=l.length) rfl (fun l x ih=>?_) l;rw[gC];simp[ih]
theorem i5(l:List Nd):(cM l).length=l.length:=by
 refine d6 (P:=fun l=>(cM l).length=l.length) rfl (fun l x ih=>?_) l;rw[j7];simp[ih]
theorem uH{a b:Int}(ha:0<=a)(hb:0<b):a.tdiv b<=a:=by
 rw[T0 ha];exact Int.ediv_le_self _ ha
theorem jQ{a b:Int}(ha:0<=a)(hb:0<b):0<=a.tmod b/\a.tmod b<b:=⟨Tf _ ha,TY _ hb⟩
theorem GN(k:Int)(hk:0<=k):iA (uO k)/\bH (uO k)<=2:=by
 have h4:=jQ hk (show (0:Int)<4 by omega);have hd:0<=k.tdiv 4:=TF hk (by omega);have a:=jQ hd (show (0:Int)<9 by omega);have b:=jQ hd (show (0:Int)<2 by omega);have c:=jQ hd (show (0:Int)<3 by omega);unfold uO;split
 ·exact⟨gQ ⟨by omega,by omega⟩ ⟨by omega,by omega⟩,by simp[bH,cQ]⟩
 ·split
  ·exact⟨gQ ⟨by omega,by omega⟩ ⟨by omega,by omega⟩,by simp[bH,cQ]⟩
  ·split
   ·refine⟨jJ ⟨by omega,by omega⟩ ⟨by omega,by omega⟩ ?_ (by simp) (by simp[yZ]),by simp[bH,cQ]⟩;rcases(show ((k.tdiv 4).tmod 3).toNat=0∨((k.tdiv 4).tmod 3).toNat=1∨((k.tdiv 4).tmod 3).toNat=2 by omega) with h|h|h<;>rw[h]<;>simp
   ·refine⟨jJ ⟨by omega,by omega⟩ ⟨by omega,by omega⟩ (by simp) (by simp) ?_,by simp[bH,cQ]⟩;simp only[yZ,and_true];exact gQ ⟨by omega,by omega⟩ ⟨by omega,by omega⟩
def vV:List (List UInt8):=[[97],[98],[99],[100]]
structure Fa(x:Nd):Prop where
 ok:rL x
 vals:x.values.length<=1024
 labels:∀s∈x.labels,s∈vV
 seq:x.kind=3->x.kids.length<=3
structure gY(ns:List Nd):Prop where
 valid:b9 [] ns=0
 gen:∀x∈ns,Fa x
theorem nB{kind lo hi:Int}{name:List UInt8}{ws ks:List Int}{ls:List (List UInt8)}{vs:List bB}{v:bB}(h1:i64 kind)(h2:name.length<=1000)(h3:i64 lo)(h4:i64 hi)(h5:ws.length<=1000)(h6:∀w∈ws,i64 w)(h7:ls.length<=1000)(h8:∀s∈ls,s∈vV)
  (h9:vs.length<=1000) (h10:∀v∈vs,iA v/\bH v<=4294967296) (h11:ks.length<=1000) (h12:∀k∈ks,i64 k) (h13:iA v) (h14:bH v<=4294967296)
  (h15:kind=3->ks.length<=3:=by first|(intro h;exact absurd h (by omega))|(intro _;omega)):Fa ⟨kind,name,lo,hi,ws,ls,vs,ks,v⟩:=
 ⟨⟨h1,by simp only;omega,h3,h4,by simp only;omega,h6,by simp only;omega,fun s hs=>by
   have:=h8 s hs;simp[vV] at this;rcases this with rfl|rfl|rfl|rfl<;>simp,by simp only;omega,h10,by simp only;omega,h12,h13,h14⟩,by simp only;omega,h8,h15⟩
theorem HT(ns:List Nd)(ls ss:List Int)(m:Int):gJ ns ls ss ⟨0,[],0,0,[],[],[],[],.mk 0 m [] []⟩=0:=by
 have hv:fW (.mk 0 m [] [])=0:=by simp[fW,cJ,dR,cZ,mW,pR,x6,bH,cQ]
 have hf:cV (ns.length:Int) ⟨0,[],0,0,[],[],[],[],.mk 0 m [] []⟩=true:=by simp[cV,iI,mS,eE]
 have hn:fE (ns.length:Int) ⟨0,[],0,0,[],[],[],[],.mk 0 m [] []⟩=0:=by
  unfold fE;rw[Rp (by rw[hf];simp)];simp[oI,eQ,hv,dW]
 unfold gJ;rw[Rp (by rw[hn];simp)];simp[eU,jY,bH,cQ]
theorem Ar{bs:List gR}{ss:List Int}:∀(kids:List Int) (rows out:List (List bB)) (S:Int),(∀r∈rows,(cQ r:Int)<=S)->(∀k∈kids,∀v∈(c9 bs k).vals,(bH v:Int)<=d7 ss k)->e6 bs kids rows=some out->∀r∈out,(cQ r:Int)<=S+fC ss kids
 | [],rows,out,S,h1,_,h=>by
  simp only[e6] at h;cases h;intro r hr;simpa[fC] using h1 r hr
 | k::ks,rows,out,S,h1,h2,h=>by
  simp only[e6] at h;split at h
  ·cases h
  ·have e:fC ss (k::ks)=d7 ss k+fC ss ks:=by simp only[fC,Sd];rw[nH ss ks];simp[fC]
   have ih:=Ar ks _ out (S+d7 ss k) (fun r hr=>by
    obtain⟨r',h3,v,h4,rfl⟩:=tW hr;have a:=h1 r' h3;have b:=h2 k (by simp) v h4;rw[vW];omega) (fun k' hk'=>h2 k' (by simp[hk'])) h
   intro r hr;have:=ih r hr;omega
theorem ID{bs:List gR}:∀(l:List Int) (a:List bB × Bool),∀v∈(l.foldl (bS bs) a).1,v∈a.1∨∃k∈l,v∈(c9 bs k).vals
 | [],a,v,hv=>.inl hv
 | k::r,a,v,hv=>by
  rcases ID r (bS bs a k) v hv with h|⟨k',h1,h2⟩
  ·simp only[bS] at h;rcases R5.1 (pJ h) with h|h
   ·exact .inl h
   ·exact .inr ⟨k,by simp,h⟩
  ·exact .inr ⟨k',by simp[h1],h2⟩
theorem n7{ss:List Int}:∀(l:List Int) (s:Int) (k:Int),k∈l->d7 ss k<=l.foldl (fun s k=>max s (d7 ss k)) s/\s<=l.foldl (fun s k=>max s (d7 ss k)) s
 | a::r,s,k,h=>by
  have mono:∀(l:List Int) (s:Int),s<=l.foldl (fun s k=>max s (d7 ss k)) s:=by
   intro l
   induction l with
   | nil=>intro s;simp
   | cons b l ih=>intro s;have:=ih (max s (d7 ss b));simp only[Sd];omega
  simp only[Sd];rcases Rz.1 h with rfl|h
  ·have:=mono r (max s (d7 ss k));omega
  ·have:=n7 (ss:=ss) r (max s (d7 ss a)) k h;omega
theorem He{x:Nd}{bs:List gR}{ss:List Int}(hkd:0<=x.kind/\x.kind<=4)(hb:∀k∈x.kids,∀v∈(c9 bs k).vals,(bH v:Int)<=d7 ss k):∀v∈(cW x bs).vals,(bH v:Int)<=jY ss x:=by
 intro v hv;unfold cW at hv;split at hv
 ·rename_i h0;simp at hv;subst hv;unfold jY;rw[Rx h0];omega
 ·rename_i h0;split at hv
  ·rename_i h1;split at hv
   ·simp at hv
   ·simp only[gX,SJ] at hv;obtain⟨j,_,rfl⟩:=hv;unfold jY;rw[Rp h0,Rx h1];simp[bH,cQ]
  ·rename_i h1;split at hv
   ·rename_i h3;unfold oK at hv;split at hv
    ·simp at hv
    ·rename_i rows hr;obtain⟨r,hr2,rfl⟩:=SJ.1 (pJ hv);have:=Ar x.kids [[]] rows 0 (by simp[cQ]) hb hr r hr2;have e:bH (dJ x.name r)=1+cQ r:=by unfold dJ;split<;>simp[bH]
     unfold jY;rw[Rp h0,Rp h1,Rx h3,e];omega
   ·rename_i h3;have key:∀ks:List Int,(∀k∈ks,k∈x.kids)->v∈(lH bs ks).vals->(bH v:Int)<=cR ss ks:=by
     intro ks hks hv;unfold lH at hv;split at hv
     ·simp at hv
     ·rcases ID ks ([],false) v hv with h|⟨k,h1,h2⟩
      ·simp at h
      ·have:=hb k (hks k h1) v h2;have:=(n7 (ss:=ss) ks 0 k h1).1;unfold cR;omega
    have:(bH v:Int)<=cR ss (dX x):=by
     unfold dX;by_cases h4:x.kind=4
     ·rw[Rx h4] at hv;rw[Rp (by omega)];exact key _ (fun k hk=>Sq hk) hv
     ·rw[Rp h4] at hv;by_cases h2:x.kind=2
      ·rw[Rx h2];exact key _ (fun k hk=>hk) hv
      ·omega
    unfold jY;rw[Rp h0,Rp h1,Rp h3];omega
theorem E9{bs:List gR}{b:gR}{k:Int}(hk:0<=k):(k<bs.length->c9 (bs++[b]) k=c9 bs k)/\(k=bs.length->c9 (bs++[b]) k=b):=by
 unfold c9;constructor
 ·intro h;rw[Rn,Rn,SG (by omega)]
 ·intro h;rw[Rn,SK (by omega),show k.toNat-bs.length=0 by omega];rfl
theorem Ka{bs:List Int}{b:Int}{k:Int}(hk:0<=k):(k<bs.length->d7 (bs++[b]) k=d7 bs k)/\(k=bs.length->d7 (bs++[b]) k=b):=by
 unfold d7;constructor
 ·intro h;rw[Rn,Rn,SG (by omega)]
 ·intro h;rw[Rn,SK (by omega),show k.toNat-bs.length=0 by omega];rfl
theorem Hc(ns:List Nd)(hg:∀(j:Nat) (x:Nd),ns[j]? = some x->iN j x):∀(k:Int),0<=k->k<ns.length->∀v∈(c9 (aP ns) k).vals,(bH v:Int)<=d7 (cM ns) k:=by
 refine d6 (P:=fun ns=>(∀(j:Nat) (x:Nd),ns[j]? = some x->iN j x)->∀(k:Int),0<=k->k<ns.length->∀v∈(c9 (aP ns) k).vals,(bH v:Int)<=d7 (cM ns) k) (fun _ k h1 h2=>by simp at h2;omega) (fun l x ih hg k hk0 hk v hv=>?_) ns hg;have hgl:∀(j:Nat) (y:Nd),l[j]? = some y->iN j y:=fun j y hy=>hg j y (by
  have:=(Rt.1 hy).1;rw[SG this];exact hy)
 have ih:=ih hgl;have hx:=hg l.length x (by simp);rw[gV] at hv;rw[j7];have e1:=E9 (bs:=aP l) (b:=cW x (aP l)) hk0;have e2:=Ka (bs:=cM l) (b:=jY (cM l) x) hk0;rw[eB] at e1;rw[i5] at e2;rcases(show k<l.length∨k=l.length by simp at hk;omega) with h|h
 ·rw[e1.1 h] at hv;rw[e2.1 h];exact ih k hk0 h v hv
 ·rw[e1.2 h] at hv;rw[e2.2 h];refine He hx.kind (fun q hq u hu=>?_) v hv;obtain⟨j,hj⟩:=Sb hq;obtain⟨q0,q1⟩:=hx.kids j q hj;exact ih q q0 q1 u hu
theorem Fi(ns:List Nd)(ho:∀x∈ns,rL x)(h:b9 [] ns=0)(k:Int)(h0:0<=k)(h1:k<ns.length):∀v∈(c9 (aP ns) k).vals,bH v<=1024:=by
 intro v hv;have a:=Hc ns (jT ns ho h) k h0 h1 v hv;have b:=(mA (M:=1024) (by omega) (g6 ns h).2 k).2;omega
theorem gY.ok{ns:List Nd}(h:gY ns):∀x∈ns,rL x:=fun x hx=>(h.gen x hx).ok
theorem gY.good{ns:List Nd}(h:gY ns):∀(j:Nat) (x:Nd),ns[j]? = some x->iN j x:=jT ns h.ok h.valid
theorem gY.snoc{ns:List Nd}{x:Nd}(h:gY ns)(hl:ns.length<=1000)(hx:Fa x)(hv:cP (ns++[x])=0):gY (ns++[x]):=by
 unfold cP at hv;rw[Rp (by simp;omega)] at hv;refine⟨hv,fun y hy=>?_⟩;rcases R5.1 hy with hy|hy
 ·exact h.gen y hy
 ·simp at hy;rw[hy];exact hx
theorem gY.leaf{ns:List Nd}(h:gY ns){m:Int}(hm:i64 m):gY (ns++[⟨0,[],0,0,[],[],[],[],.mk 0 m [] []⟩]):=by
 refine⟨?_,fun y hy=>?_⟩
 ·rw[fJ [] ns _ h.valid];exact HT _ _ _ _
 ·rcases R5.1 hy with hy|hy
  ·exact h.gen y hy
  ·simp at hy;rw[hy];have h0:i64 0:=⟨by omega,by omega⟩
   exact nB h0 (by simp) h0 h0 (by simp) (by simp) (by simp) (by simp) (by simp) (by simp) (by simp) (by simp) (gQ h0 hm) (by simp[bH,cQ])
def eZ(a b:List bB):List bB:=match a,b with
 | [],b=>b
 | a,[]=>a
 | x::l,y::m=>if cN x y<0 then x::eZ l (y::m) else if cN x y=0 then x::eZ l m else y::eZ (x::l) m
termination_by a.length+b.length
theorem Bk(b:List bB):eZ [] b=b:=by rw[eZ]
theorem GQ(a:List bB):eZ a []=a:=by
 cases a with
 | nil=>rw[eZ]
 | cons x l=>rw[eZ];simp
theorem Ey(x y:bB)(l m:List bB):eZ (x::l) (y::m)=if cN x y<0 then x::eZ l (y::m) else if cN x y=0 then x::eZ l m else y::eZ (x::l) m:=by rw[eZ]
mutual
theorem GG:∀(a b:bB),cN a b=0->a=b
 | .mk k n s ks,.mk k' n' s' ks',h=>by
  simp only[cN,andThen] at h;split at h
  ·rename_i h1;split at h
   ·rename_i h2;split at h
    ·rename_i h3;have e1:k=k':=Decidable.byContradiction fun e=>qY e h1
     have e2:n=n':=Decidable.byContradiction fun e=>qY e h2
     rw[e1,e2,nF h3,Kh ks ks' h]
    ·rename_i h3;exact absurd h h3
   ·rename_i h2;exact absurd h h2
  ·rename_i h1;exact absurd h h1
theorem Kh:∀(l m:List bB),fU l m=0->l=m
 | [],[],_=>rfl
 | [],_::_,h=>by simp[fU] at h
 | _::_,[],h=>by simp[fU] at h
 | a::l,b::m,h=>by
  simp only[fU,andThen] at h;split at h
  ·rename_i h1;rw[GG a b h1,Kh l m h]
  ·rename_i h1;exact absurd h h1
end
theorem Bw(a:bB):¬cN a a<0:=by rw[(lU a).refl];omega
theorem EJ:∀{a b:List bB},lN a->lN b->(∀x,x∈a↔x∈b)->a=b
 | [],[],_,_,_=>rfl
 | [],y::m,_,_,h=>by have:=(h y).2 (by simp);simp at this
 | x::l,[],_,_,h=>by have:=(h x).1 (by simp);simp at this
 | x::l,y::m,h1,h2,h=>by
  unfold lN at h1 h2;rw[SV] at h1 h2;have e:x=y:=by
   rcases Rz.1 ((h x).1 (by simp)) with e|e
   ·exact e
   ·rcases Rz.1 ((h y).2 (by simp)) with e'|e'
    ·exact e'.symm
    ·have a1:=h2.1 x e;have a2:=h1.1 y e';have:=E5 a1 (by omega:cN x y<=0);exact absurd this (Bw y)
  subst e;congr 1;refine EJ h1.2 h2.2 fun z=>?_
  constructor
  ·intro hz;rcases Rz.1 ((h z).1 (by simp[hz])) with e|e
   ·subst e;exact absurd (h1.1 z hz) (Bw z)
   ·exact e
  ·intro hz;rcases Rz.1 ((h z).2 (by simp[hz])) with e|e
   ·subst e;exact absurd (h2.1 z hz) (Bw z)
   ·exact e
theorem FK:∀(l:List bB) (v x:bB),x∈rY l v↔x=v∨x∈l
 | [],v,x=>by simp[rY,d9]
 | a::r,v,x=>by
  rw[DB];split
  ·split
   ·rename_i h;have e:=GG a v (by simpa using h);subst e;constructor
    ·intro h;exact .inr h
    ·rintro(rfl|h)
     ·simp
     ·exact h
   ·simp
  ·simp only[Rz,FK r v x];constructor
   ·rintro(h|h|h)
    ·exact .inr (.inl h)
    ·exact .inl h
    ·exact .inr (.inr h)
   ·rintro(h|h|h)
    ·exact .inr (.inl h)
    ·exact .inl h
    ·exact .inr (.inr h)
theorem nI(l:List bB)(x:bB):x∈eJ l↔x∈l:=by
 refine d6 (P:=fun l=>x∈eJ l↔x∈l) (by simp[eJ]) (fun l a ih=>?_) l;rw[oE,FK,ih];simp only[R5,TP];constructor
 ·rintro(h|h)
  ·exact .inr h
  ·exact .inl h
 ·rintro(h|h)
  ·exact .inr h
  ·exact .inl h
theorem ET{l:List bB}(h:lN l):eJ l=l:=EJ (t7 l) h (nI l)
theorem oG(a b:List bB)(x:bB):x∈eZ a b↔x∈a∨x∈b:=by
 fun_induction eZ a b with
 | case1 b=>simp
 | case2 a h=>simp
 | case3 y l z m h ih=>simp only[Rz,ih];simp only[or_assoc]
 | case4 y l z m h1 h2 ih=>
  have:=GG y z h2;subst this;simp only[Rz,ih];constructor
  ·rintro(h|h|h)
   ·exact .inl (.inl h)
   ·exact .inl (.inr h)
   ·exact .inr (.inr h)
  ·rintro((h|h)|(h|h))
   ·exact .inl h
   ·exact .inr (.inl h)
   ·exact .inl h
   ·exact .inr (.inr h)
 | case5 y l z m h1 h2 ih=>
  simp only[Rz,ih];constructor
  ·rintro(h|(h|h)|h)
   ·exact .inr (.inl h)
   ·exact .inl (.inl h)
   ·exact .inl (.inr h)
   ·exact .inr (.inr h)
  ·rintro((h|h)|(h|h))
   ·exact .inr (.inl (.inl h))
   ·exact .inr (.inl (.inr h))
   ·exact .inl h
   ·exact .inr (.inr h)
theorem BE(a b:List bB):lN a->lN b->lN (eZ a b):=by
 fun_induction eZ a b with
 | case1 b=>intro _ h;exact h
 | case2 a h=>intro h _;exact h
 | case3 y l z m h ih=>
  intro h1 h2;unfold lN at h1 h2 ⊢;have h1':=SV.1 h1;have h2':=SV.1 h2;refine SV.2 ⟨fun x hx=>?_,ih h1'.2 h2⟩;rcases(oG _ _ _).1 hx with hx|hx
  ·exact h1'.1 x hx
  ·rcases Rz.1 hx with rfl|hx
   ·exact h
   ·have:=h2'.1 x hx;exact E5 h (by omega)
 | case4 y l z m hn he ih=>
  intro h1 h2;unfold lN at h1 h2 ⊢;have h1':=SV.1 h1;have h2':=SV.1 h2;have:=GG y z he;subst this;refine SV.2 ⟨fun x hx=>?_,ih h1'.2 h2'.2⟩;rcases(oG _ _ _).1 hx with hx|hx
  ·exact h1'.1 x hx
  ·exact h2'.1 x hx
 | case5 y l z m hn he ih=>
  intro h1 h2;unfold lN at h1 h2 ⊢;have h1':=SV.1 h1;have h2':=SV.1 h2;have hzy:=IL (a:=y) (b:=z) (by omega);refine SV.2 ⟨fun x hx=>?_,ih h1 h2'.2⟩;rcases(oG _ _ _).1 hx with hx|hx
  ·rcases Rz.1 hx with rfl|hx
   ·exact hzy
   ·have:=h1'.1 x hx;exact E5 hzy (by omega)
  ·exact h2'.1 x hx
theorem GO{a b:List bB}(h1:lN a)(h2:lN b):eZ a b=eJ (a++b):=
 EJ (BE a b h1 h2) (t7 _) fun x=>by rw[oG,nI,R5]
theorem Bj:∀(r l:List Nd),∃m,aP (l++r)=aP l++m
 | [],l=>⟨[],by simp⟩
 | x::r,l=>by
  obtain⟨m,hm⟩:=Bj r (l++[x]);refine⟨cW x (aP l)::m, ?_⟩;have e:l++x::r=l++[x]++r:=by simp
  rw[e,hm,gV];simp
theorem MU{a b:List gR}{k:Int}(h0:0<=k)(h:k<a.length):c9 (a++b) k=c9 a k:=by
 unfold c9;rw[Rn,Rn,SG (by omega)]
theorem j8{ns:List Nd}{n:Nat}{k:Int}(h0:0<=k)(h:k<n)(hn:n<=ns.length):c9 (aP (ns.take n)) k=c9 (aP ns) k:=by
 obtain⟨m,hm⟩:=Bj (ns.drop n) (ns.take n);rw[SW] at hm;rw[hm,MU h0 (by rw[eB,SX];omega)]
theorem BJ{b1 b2:List gR}{l:List Int}(h:∀k∈l,c9 b1 k=c9 b2 k):lH b1 l=lH b2 l:=by
 have:∀(l:List Int) (a:List bB × Bool),(∀k∈l,c9 b1 k=c9 b2 k)->l.foldl (bS b1) a=l.foldl (bS b2) a:=by
  intro l
  induction l with
  | nil=>intro a _;rfl
  | cons k r ih=>
   intro a h;simp only[Sd];have e:bS b1 a k=bS b2 a k:=by unfold bS;rw[h k (by simp)]
   rw[e];exact ih _ fun q hq=>h q (by simp[hq])
 unfold lH;rw[this l _ h]
theorem z8{b1 b2:List gR}:∀(l:List Int) (rows:List (List bB)),(∀k∈l,c9 b1 k=c9 b2 k)->e6 b1 l rows=e6 b2 l rows
 | [],rows,_=>rfl
 | k::r,rows,h=>by
  simp only[e6,h k (by simp)];split
  ·rfl
  ·exact z8 r _ fun q hq=>h q (by simp[hq])
theorem AD{b1 b2:List gR}{x:Nd}(h:∀k∈x.kids,c9 b1 k=c9 b2 k):cW x b1=cW x b2:=by
 unfold cW;split
 ·rfl
 ·split
  ·rfl
  ·split
   ·unfold oK;rw[z8 x.kids _ h]
   ·split
    ·exact BJ fun k hk=>h k (Sq hk)
    ·exact BJ h
theorem BM{ns:List Nd}(hg:∀(j:Nat) (x:Nd),ns[j]? = some x->iN j x){i:Nat}{x:Nd}(hx:ns[i]? = some x):c9 (aP ns) i=cW x (aP ns):=by
 obtain⟨hi,he⟩:=Rt.1 hx;have e1:c9 (aP (ns.take (i+1))) i=c9 (aP ns) i:=j8 (by omega) (by omega) (by omega);rw[←e1,Rv hi,gV,he];rw[(E9 (b:=cW x (aP (ns.take i))) (show (0:Int)<=i by omega)).2 (by rw[eB,SX];omega)];refine AD fun k hk=>?_
 obtain⟨j,hj⟩:=Sb hk;obtain⟨h0,h1⟩:=(hg i x hx).kids j k hj;exact j8 h0 h1 (by omega)
theorem yU:∀{a b:List bB} {x y:bB},a.length=b.length->fU (a++[x]) (b++[y])=andThen (fU a b) (cN x y)
 | [],[],x,y,_=>by
  simp only[SY,fU,andThen];split
  ·rename_i h;rw[h];rfl
  ·rfl
 | [],_::_,_,_,h=>by simp at h
 | _::_,[],_,_,h=>by simp at h
 | a::l,b::m,x,y,h=>by
  simp only[Sr,fU];rw[yU (by simpa using h)];unfold andThen;repeat' split
  all_goals first|rfl|omega
def KR(n:Nat)(rows:List (List bB)):Prop:=(∀r∈rows,r.length=n)/\rows.Pairwise fun a b=>fU a b<0
theorem JI{n:Nat}{rows:List (List bB)}{l:List bB}(h:KR n rows)(hl:lN l):KR (n+1) (gE rows l):=by
 obtain⟨h1,h2⟩:=h;refine⟨fun r hr=>?_, ?_⟩
 ·obtain⟨r',h3,v,_,rfl⟩:=tW hr;simp[h1 r' h3]
 ·unfold gE
  induction rows with
  | nil=>simp
  | cons a rs ih=>
   rw[SV] at h2;rw[Tn,List.pairwise_append];refine⟨?_,ih (fun r hr=>h1 r (by simp[hr])) h2.2, ?_⟩
   ·rw[Ud];refine hl.imp fun {x y} hxy=>?_
    rw[yU rfl,(zF a).refl];simpa[andThen] using hxy
   ·intro p hp q hq;obtain⟨v,_,rfl⟩:=SJ.1 hp;obtain⟨r',h3,u,_,rfl⟩:=tW (rows:=rs) (l:=l) hq;have:=h2.1 r' h3;rw[yU (by rw[h1 a (by simp),h1 r' (by simp[h3])])];unfold andThen;split
    ·omega
    ·exact this
theorem De{bs:List gR}(hb:∀b∈bs,lN b.vals):∀(kids:List Int) (n:Nat) (rows out:List (List bB)),KR n rows->e6 bs kids rows=some out->KR (n+kids.length) out
 | [],n,rows,out,h,h2=>by
  simp only[e6] at h2;cases h2;exact h
 | k::ks,n,rows,out,h,h2=>by
  simp only[e6] at h2;split at h2
  ·cases h2
  ·have hs:lN (c9 bs k).vals:=by
    unfold c9;rw[Rn];cases e:bs[k.toNat]? with
    | none=>simp[lN]
    | some b=>exact hb b (R3 e)
   have:=De hb ks (n+1) _ out (JI h hs) h2;simp only[Sa];rw[show n+(ks.length+1)=n+1+ks.length by omega];exact this
theorem Ki(name:List UInt8)(a b:List bB):cN (dJ name a) (dJ name b)=fU a b:=by
 unfold dJ;split<;>simp[cN,(iE _).refl,(pF _).refl,andThen]
theorem KH{n:Nat}{rows:List (List bB)}(name:List UInt8)(h:KR n rows):lN (rows.map (dJ name)):=by
 unfold lN;rw[Ud];exact h.2.imp fun {a b} h=>by rw[Ki];exact h
theorem JT(lo hi:Int):lN (gX lo hi):=by
 unfold lN gX;rw[Ud];refine List.pairwise_lt_range.imp fun {i j} h=>?_
 rw[Ku rfl (by omega)];rw[Rx (by omega)];omega
theorem JV{x:Nd}{bs:List gR}:lN (cW x bs).vals:=by
 unfold cW;split
 ·simp[lN]
 ·split
  ·split
   ·simp[lN]
   ·exact JT _ _
  ·split
   ·unfold oK;split
    ·simp[lN]
    ·exact t7 _
   ·generalize (if x.kind=4 then x.kids.drop 1 else x.kids)=ks;unfold lH;split
    ·simp[lN]
    ·have:∀(l:List Int) (a:List bB × Bool),lN a.1->lN (l.foldl (bS bs) a).1:=by
      intro l
      induction l with
      | nil=>intro a h;exact h
      | cons k r ih=>intro a _;exact ih _ (t7 _)
     exact this _ _ (by simp[lN])
theorem CG(ns:List Nd):∀b∈aP ns,lN b.vals:=by
 refine d6 (P:=fun ns=>∀b∈aP ns,lN b.vals) (by simp[aP]) (fun l x ih=>?_) ns;rw[gV];intro b hb;rcases R5.1 hb with hb|hb
 ·exact ih b hb
 ·simp at hb;rw[hb];exact JV
theorem Mr{bs:List gR}(hb:∀b∈bs,lN b.vals)(k:Int):lN (c9 bs k).vals:=by
 unfold c9;rw[Rn];cases h:bs[k.toNat]? with
 | none=>simp[lN]
 | some b=>exact hb b (R3 h)
theorem JJ{bs:List gR}(hb:∀b∈bs,lN b.vals){x:Nd}{rows:List (List bB)}(h:e6 bs x.kids [[]]=some rows):oK bs x=⟨rows.map (dJ x.name),false⟩:=by
 unfold oK;rw[h];simp only;rw[ET (KH _ (De hb x.kids 0 [[]] rows ⟨by simp,by simp⟩ h))]
def rowAt:List (List bB)->Nat->List bB
 | [],_=>[]
 | l::r,k=>rowAt r (k/l.length)++(l[k%l.length]?).toList
def pK:List (List bB)->List (List bB)
 | []=>[[]]
 | l::r=>gE (pK r) l
def jB:List (List bB)->Nat
 | []=>1
 | l::r=>jB r*l.length
theorem zM:∀ls:List (List bB),(pK ls).length=jB ls
 | []=>rfl
 | l::r=>by rw[pK,tS,jB,zM r]
theorem C9(l:List bB):∀(rows:List (List bB)) (k:Nat) (a:List bB) (v:bB),rows[k/l.length]? = some a->l[k%l.length]? = some v->(gE rows l)[k]? = some (a++[v])
 | [],k,a,v,h,_=>by simp at h
 | r::rs,k,a,v,h,hv=>by
  have hpos:0<l.length:=by
   rcases SN l.length with h0|h0
   ·have:l=[]:=S1.1 h0;subst this;simp at hv
   ·exact h0
  unfold gE;rw[Tn];rcases R9 k l.length with hk|hk
  ·rw[SG (by simpa using hk)];rw[Nat.div_eq_of_lt hk] at h;rw[UQ hk] at hv;simp at h;subst h;simp[hv]
  ·rw[SK (by simpa using hk),TO];have e1:k/l.length=(k-l.length)/l.length+1:=by
    conv=>lhs;rw[show k=(k-l.length)+l.length by omega]
    exact Nat.add_div_right _ hpos
   have e2:k%l.length=(k-l.length)%l.length:=(Nat.mod_eq_sub_mod hk)
   rw[e1] at h;rw[e2] at hv;exact C9 l rs (k-l.length) a v (by simpa using h) hv
theorem DP:∀(ls:List (List bB)) (k:Nat),k<jB ls->(pK ls)[k]? = some (rowAt ls k)
 | [],k,h=>by
  simp[jB] at h;subst h;rfl
 | l::r,k,h=>by
  simp only[jB] at h;have hpos:0<l.length:=by
   rcases SN l.length with h0|h0
   ·rw[h0] at h;simp at h
   ·exact h0
  have h1:k/l.length<jB r:=Nat.div_lt_of_lt_mul (by rw[T2];exact h);have h2:=Ug k hpos;have e:=Rm h2;rw[pK,rowAt,e];exact C9 l _ k _ _ (DP r _ h1) e
theorem Cz{bs:List gR}:∀(kids:List Int) (ls:List (List bB)),jB ls<=1024 ->
  e6 bs kids (pK ls)=if (kids.foldl (fun(a:Nat × Bool) k=>(a.1*(c9 bs k).vals.length,a.2 || (c9 bs k).many || decide (1024<a.1*(c9 bs k).vals.length))) (jB ls,false)).2 then none
   else some (pK (kids.reverse.map (fun k=>(c9 bs k).vals)++ls))
 | [],ls,h=>by simp[e6]
 | k::r,ls,h=>by
  have stay:∀(l:List Int) (n:Nat),(l.foldl (fun(a:Nat × Bool) k=>(a.1*(c9 bs k).vals.length,a.2 || (c9 bs k).many || decide (1024<a.1*(c9 bs k).vals.length))) (n,true)).2=true:=by
   intro l
   induction l with
   | nil=>intro n;rfl
   | cons q l ih=>intro n;simp only[Sd,Bool.true_or];exact ih _
  simp only[e6,Sd,zM,T7];by_cases hc:(c9 bs k).many=true∨1024<jB ls*(c9 bs k).vals.length
  ·have e:((c9 bs k).many || decide (1024<jB ls*(c9 bs k).vals.length))=true:=by simpa using hc
   rw[Rx hc,e,Rx (stay _ _)]
  ·have e:((c9 bs k).many || decide (1024<jB ls*(c9 bs k).vals.length))=false:=by
    rw[not_or] at hc;simp at hc ⊢;exact hc
   rw[Rp hc,e];rw[not_or] at hc;have:=Cz (bs:=bs) r ((c9 bs k).vals::ls) (by simp only[jB];omega);simp only[pK,jB] at this;rw[this];simp[SC]
def cut(p s:List UInt8):Option (List UInt8):=if p.isPrefixOf s then some (s.drop p.length) else none
structure Pp(x:Nd):Prop where
 ok:rL x
 rng:x.lo<=x.hi/\-4611686018427387904<=x.lo/\x.hi<=4611686018427387904/\x.hi<x.lo+1099511627776
 klen:x.kids.length<=2000
 kl2:x.kind=2->x.kids.length<=1000
 ch:x.kind=2->1<=x.kids.length/\(x.labels.length=0∨x.labels.length=x.kids.length)
theorem nY(ns:List Nd)(h:b9 [] ns=0):∀(j:Nat) (x:Nd),ns[j]? = some x->fE j x=0:=by
 refine d6 (P:=fun ns=>b9 [] ns=0->∀(j:Nat) (x:Nd),ns[j]? = some x->fE j x=0) (fun _ j x hx=>by simp at hx) (fun l x ih h=>?_) ns h;have h1:=iS h;have ih:=ih h1;have hs:=fJ [] l x h1;rw[h] at hs;simp only[SY] at hs;obtain⟨hg,-,-,-⟩:=gD hs.symm;intro j y hy;rcases R9 j l.length with hj|hj
 ·rw[SG hj] at hy;exact ih j y hy
 ·rw[SK hj] at hy;have e:j-l.length=0:=by
   have:=(Rt.1 hy).1;simp at this;omega
  rw[e] at hy;simp at hy;subst hy;rw[show j=l.length by omega];exact hg
structure Rl(LB:List (List UInt8))(x:Nd):Prop where
 opt:Pp x
 lab:∀s∈x.labels,s∈LB
 ll:x.labels.length<=1000
theorem xK{bs:List gR}:∀(l:List Int) (a:List bB × Bool),a.2=true->(l.foldl (bS bs) a).2=true
 | [],_,h=>h
 | k::r,a,h=>xK r _ (by simp[bS,h])
theorem yD{l:List bB}(h:l≠[]):eJ l≠[]:=by
 cases l with
 | nil=>exact absurd rfl h
 | cons a r=>exact List.ne_nil_of_mem ((nI (a::r) a).2 (by simp))
theorem GR{bs:List gR}:∀(l:List Int) (a:List bB × Bool),a.1≠[]->(l.foldl (bS bs) a).1≠[]
 | [],_,h=>h
 | k::r,a,h=>GR r _ (yD (by simp[h]))
theorem Oj{bs:List gR}{l:List Int}(hl:l≠[])(h:∀k∈l,(c9 bs k).many=false->(c9 bs k).vals≠[])(hm:(lH bs l).many=false):(lH bs l).vals≠[]:=by
 unfold lH at hm ⊢;split at hm
 ·simp at hm
 ·rename_i hf;rw[Rp hf];simp only;cases l with
  | nil=>exact absurd rfl hl
  | cons k r=>
   simp only[Sd] at hf ⊢;have hk:(bS bs ([],false) k).2=false:=by
    cases e:(bS bs ([],false) k).2 with
    | false=>rfl
    | true=>exact absurd (xK r _ e) hf
   refine GR r _ (yD ?_);simp only[bS,T7,Ty] at hk;simp only[SY];exact h k (by simp) hk.1
theorem H5{bs:List gR}:∀(kids:List Int) (rows out:List (List bB)),rows≠[]->(∀k∈kids,(c9 bs k).many=false->(c9 bs k).vals≠[])->e6 bs kids rows=some out->out≠[]
 | [],rows,out,h,_,h2=>by
  simp only[e6] at h2;cases h2;exact h
 | k::ks,rows,out,h,hk,h2=>by
  simp only[e6] at h2;split at h2
  ·cases h2
  ·rename_i hc;rw[not_or] at hc;refine H5 ks _ out ?_ (fun q hq=>hk q (by simp[hq])) h2;have hv:=hk k (by simp) (by simpa using hc.1);have:=tS (c9 bs k).vals rows;intro e;rw[e] at this;have a:=S2.2 h;have b:=S2.2 hv;have:=UT a b;simp at *;omega
theorem nW(ns:List Nd)(h:b9 [] ns=0):∀(j:Nat) (x:Nd),ns[j]? = some x->gJ (ns.take j) (aX (ns.take j)) (cM (ns.take j)) x=0:=by
 intro j x hx;obtain⟨hj,he⟩:=Rt.1 hx;have e:ns=ns.take j++x::ns.drop (j+1):=by
  rw[←he];simp
 have h1:b9 [] (ns.take j)=0:=by
  rw[e] at h;exact iS h
 have h2:b9 [] (ns.take j++[x])=0:=by
  have e2:ns=(ns.take j++[x])++ns.drop (j+1):=by simpa using e
  rw[e2] at h;exact iS h
 rw[fJ [] _ x h1] at h2;simpa using h2
theorem mZ{i:Int}{x:Nd}(h:cV i x=true):(x.kind=2->1<=x.kids.length)/\(x.kind=4->x.kids.length=x.values.length+1):=by
 unfold cV at h;simp only[Rr,Sv,SP] at h;obtain⟨⟨⟨⟨_,h2⟩,_⟩,h4⟩,_⟩:=h;exact⟨fun e=>by rcases h2 with h2|h2<;>omega,fun e=>by omega⟩
theorem g5{i:Int}{x:Nd}(h:fE i x=0):cV i x=true:=by
 unfold fE at h;split at h
 ·omega
 ·rename_i hf;simpa using hf
theorem FT(ns:List Nd)(ho:∀x∈ns,rL x)(h:b9 [] ns=0):∀(n:Nat) (k:Nat),k<=n->k<ns.length->(c9 (aP ns) k).many=false->(c9 (aP ns) k).vals≠[]:=by
 have hg:=jT ns ho h;intro n
 induction n with
 | zero=>
  intro k hk hlt hm;have hx:=Rm hlt;have hG:=hg k _ hx;have hst:=nW ns h k _ hx;obtain⟨h1,_,_,h4⟩:=gD hst;have hlen:(ns.take k).length=k:=by simp;omega
  rw[hlen] at h1;have hfp:=mZ (g5 h1);have hk0:(ns[k]).kids=[]:=by
   cases e:(ns[k]).kids with
   | nil=>rfl
   | cons q r=>have:=hG.kids 0 q (by rw[e];rfl);omega
  rw[BM hg hx] at hm ⊢;have hnum:=cA hG.num;rw[hk0] at hfp;simp at hfp;unfold cW at hm ⊢;split
  ·simp
  ·split
   ·split
    ·rename_i e;rw[Rp (by assumption),Rx (by assumption),Rx e] at hm;simp at hm
    ·simp only[gX];intro e;have:=congrArg List.length e;simp at this;omega
   ·split
    ·unfold oK;rw[hk0];simp[e6,yD]
    ·have:=hG.kind;omega
 | succ n ih=>
  intro k hk hlt hm;have hx:=Rm hlt;have hG:=hg k _ hx;have hst:=nW ns h k _ hx;obtain⟨h1,_,_,h4⟩:=gD hst;have hlen:(ns.take k).length=k:=by simp;omega
  rw[hlen] at h1;have hfp:=mZ (g5 h1);rw[BM hg hx] at hm ⊢;have hnum:=cA hG.num;have hkid:∀q∈(ns[k]).kids,(c9 (aP ns) q).many=false->(c9 (aP ns) q).vals≠[]:=fun q hq=>by
   obtain⟨j,hj⟩:=Sb hq;obtain⟨q0,q1⟩:=hG.kids j q hj;obtain⟨q,rfl⟩:=R7 q0;exact ih q (by omega) (by omega)
  unfold cW at hm ⊢;split
  ·simp
  ·split
   ·split
    ·rename_i e;rw[Rp (by assumption),Rx (by assumption),Rx e] at hm;simp at hm
    ·simp only[gX];intro e;have:=congrArg List.length e;simp at this;omega
   ·split
    ·rename_i e0 e1 e3;rw[Rp e0,Rp e1,Rx e3] at hm;unfold oK at hm ⊢;split
     ·rename_i e;rw[e] at hm;simp at hm
     ·rename_i rows e;have:=H5 _ _ _ (by simp) hkid e;exact yD (by simpa using this)
    ·rename_i e0 e1 e3;rw[Rp e0,Rp e1,Rp e3] at hm;refine Oj ?_ (fun q hq=>hkid q ?_) hm
     ·split
      ·rename_i e4;have hb:=h4 e4;have hkl:=hfp.2 e4;unfold e8 at hb;simp only at hb;split at hb
       ·omega
       ·rename_i hmany;split at hb
        ·rename_i hs;have hsl:=mG hs;have hq:=hG.kids 0 ((ns[k]).kids.getD 0 0) (by
          rw[Rn];have:0<(ns[k]).kids.length:=by omega
          rw[Rm this];rfl)
         obtain⟨q,hqe⟩:=R7 hq.1;rw[hqe] at hsl hmany hq;simp only[Rq] at hsl hmany;rw[To,show min (q+1) k=q+1 by omega,j8 (by omega) (by omega) (by omega)] at hsl hmany;have:=ih q (by omega) (by omega) (by simpa using hmany);have:=S2.2 this;intro e;have:=congrArg List.length e;simp at this;omega
        ·omega
      ·have:=hG.kind;have:=hfp.1 (by omega);exact List.ne_nil_of_length_pos (by omega)
     ·split at hq
      ·exact Sq hq
      ·exact hq
def wO(ss:List Int)(x:Nd):Int:=
 if x.kind=0 then bH x.value else if x.kind=1 then 1 else if x.kind=3 then 1+fC ss x.kids else max 1 (cR ss (dX x))
theorem IM{ss:List Int}{x:Nd}:wO ss x<=1024↔jY ss x<=1024:=by
 unfold wO jY;split
 ·rfl
 ·split
  ·rfl
  ·split
   ·rfl
   ·omega
theorem EP{ns:List Nd}(ho:∀x∈ns,rL x)(h:b9 [] ns=0){x:Nd}(hk:x.kind=2∨x.kind=4)(hs:gJ ns (aX ns) (cM ns) x=0):∃q∈dX x,0<=q/\q<ns.length:=by
 obtain⟨h1,_,_,h4⟩:=gD hs;have hfp:=mZ (g5 h1);have hn:=kQ h1;have mem:∀q∈x.kids,0<=q/\q<ns.length:=fun q hq=>by
  obtain⟨j,hj⟩:=Sb hq;exact hn.kids j q hj
 rcases hk with e|e
 ·unfold dX;rw[Rx e];cases hc:x.kids with
  | nil=>have:=hfp.1 e;rw[hc] at this;simp at this
  | cons q r=>exact⟨q,by simp,mem q (by rw[hc];simp)⟩
 ·unfold dX;rw[Rp (by omega)];have hb:=h4 e;have hkl:=hfp.2 e;have:1<=x.values.length:=by
   unfold e8 at hb;simp only at hb;split at hb
   ·omega
   ·rename_i hmany;split at hb
    ·rename_i hs;have hsl:=mG hs;have hlt:0<x.kids.length:=by omega
     have hq:=mem (x.kids.getD 0 0) (by rw[Rn,Rm hlt];exact SI hlt);obtain⟨q,hqe⟩:=R7 hq.1;rw[hqe] at hsl hmany hq;simp only[Rq] at hsl hmany;rw[j8 (by omega) (by omega) (by omega)] at hsl hmany;have:=FT ns ho h q q (by omega) (by omega) (by simpa using hmany);have:=S2.2 this;omega
    ·omega
  have hlt:1<x.kids.length:=by omega
  refine⟨x.kids[1], ?_,mem _ (SI hlt)⟩;refine R3 (i:=0) ?_;rw[SZ];exact Rm hlt
theorem Gc(ns:List Nd)(ho:∀x∈ns,rL x)(h:b9 [] ns=0):∀y∈cM ns,1<=y:=by
 refine d6 (P:=fun ns=>(∀x∈ns,rL x)->b9 [] ns=0->∀y∈cM ns,1<=y) (fun _ _=>by simp[cM]) (fun l x ih ho h=>?_) ns ho h;have h1:=iS h;have hol:∀y∈l,rL y:=fun y hy=>ho y (SU _ hy)
 have ih:=ih hol h1;have hs:=fJ [] l x h1;rw[h] at hs;simp only[SY] at hs;rw[j7];intro y hy;rcases R5.1 hy with hy|hy
 ·exact ih y hy
 ·simp at hy;subst hy;have hb:=g6 l h1;have hk:=(kQ (gD hs.symm).1).kind;unfold jY;split
  ·have:=DM x.value;omega
  ·split
   ·omega
   ·split
    ·have:=(iO (by omega) hb.2 x.kids).1;omega
    ·obtain⟨q,hq,q0,q1⟩:=EP hol h1 (by omega) hs.symm;have:=(n7 (ss:=cM l) (dX x) 0 q hq).1;have h2:1<=d7 (cM l) q:=by
      unfold d7;have hlt:q.toNat<(cM l).length:=by rw[i5];omega
      rw[Rn,Rm hlt];exact ih _ (SI hlt)
     unfold cR;omega
theorem Mj{ns:List Nd}(ho:∀x∈ns,rL x)(h:b9 [] ns=0){x:Nd}(hs:gJ ns (aX ns) (cM ns) x=0):wO (cM ns) x=jY (cM ns) x:=by
 have hk:=(kQ (gD hs).1).kind;unfold wO jY;split
 ·rfl
 ·split
  ·rfl
  ·split
   ·rfl
   ·obtain⟨q,hq,q0,q1⟩:=EP ho h (by omega) hs;have:=(n7 (ss:=cM ns) (dX x) 0 q hq).1;have h2:1<=d7 (cM ns) q:=by
     unfold d7;have hlt:q.toNat<(cM ns).length:=by rw[i5];omega
     rw[Rn,Rm hlt];exact Gc ns ho h _ (SI hlt)
    unfold cR at *;omega
theorem H8{a b:List Int}{k:Int}(h0:0<=k)(h:k<a.length):d7 (a++b) k=d7 a k:=by
 unfold d7;rw[Rn,Rn,SG (by omega)]
theorem A5{a b:List Int}{l:List Int}(h:∀k∈l,d7 a k=d7 b k):fC a l=fC b l:=by
 unfold fC;have:∀(l:List Int) (s:Int),(∀k∈l,d7 a k=d7 b k)->l.foldl (fun s k=>s+d7 a k) s=l.foldl (fun s k=>s+d7 b k) s:=by
  intro l
  induction l with
  | nil=>intro s _;rfl
  | cons k r ih=>intro s h;simp only[Sd];rw[h k (by simp)];exact ih _ fun q hq=>h q (by simp[hq])
 exact this l 0 h
theorem rR{a b:List Int}{l:List Int}(h:∀k∈l,d7 a k=d7 b k):cR a l=cR b l:=by
 unfold cR;have:∀(l:List Int) (s:Int),(∀k∈l,d7 a k=d7 b k)->l.foldl (fun s k=>max s (d7 a k)) s=l.foldl (fun s k=>max s (d7 b k)) s:=by
  intro l
  induction l with
  | nil=>intro s _;rfl
  | cons k r ih=>intro s h;simp only[Sd];rw[h k (by simp)];exact ih _ fun q hq=>h q (by simp[hq])
 exact this l 0 h
theorem Ay{x:Nd}{q:Int}(h:q∈dX x):q∈x.kids:=by
 unfold dX at h;split at h
 ·exact h
 ·exact Sq h
theorem vK{a b:List Int}{x:Nd}(h:∀k∈x.kids,d7 a k=d7 b k)(h4:x.kind=4->0<x.kids.length)(hk:0<=x.kind/\x.kind<=4):eU a x=eU b x:=by
 unfold eU;split
 ·rfl
 ·split
  ·rfl
  ·split
   ·exact A5 h
   ·split
    ·rw[rR fun q hq=>h q (Ay hq)]
    ·have:0<x.kids.length:=h4 (by omega);rw[rR fun q hq=>h q (Ay hq),h (x.kids.getD 0 0) (by rw[Rn,Rm this];exact SI this)]
theorem G0{a b:List Int}{x:Nd}(h:∀k∈x.kids,d7 a k=d7 b k):wO a x=wO b x:=by
 unfold wO;rw[A5 h,rR fun q hq=>h q (Ay hq)]
end Go.Ax
namespace Go.Ax
open Go
structure gW(ns:List Nd)(n:Nat):Prop where
 hn:n<=ns.length
 len:ns.length<=4096
 ok:∀x∈ns,rL x
 val:b9 [] (ns.take n)=0
variable {ns:List Nd} {n:Nat}
theorem gW.okT(h:gW ns n):∀x∈ns.take n,rL x:=fun x hx=>h.ok x (Se hx)
theorem gW.goodT(h:gW ns n):∀(j:Nat) (x:Nd),(ns.take n)[j]? = some x->iN j x:=jT _ h.okT h.val
theorem Aw{i:Nat}{x:Nd}(hi:i<n)(hx:ns[i]? = some x):(ns.take n)[i]? = some x:=by rw[ST,Rx hi];exact hx
theorem gW.node(h:gW ns n){i:Nat}{x:Nd}(hi:i<n)(hx:ns[i]? = some x):iN i x:=h.goodT i x (Aw hi hx)
theorem gW.atE(h:gW ns n){k:Int}(h0:0<=k)(h1:k<n):c9 (aP (ns.take n)) k=c9 (aP ns) k:=j8 h0 h1 h.hn
theorem gW.vals(h:gW ns n){k:Int}(h0:0<=k)(h1:k<n):(c9 (aP ns) k).vals.length<=1024/\∀v∈(c9 (aP ns) k).vals,iA v:=by
 rw[←h.atE h0 h1];exact pM (iQ _ h.goodT) k
theorem gW.at(h:gW ns n){i:Nat}{x:Nd}(hi:i<n)(hx:ns[i]? = some x):c9 (aP ns) i=cW x (aP ns):=by
 rw[←h.atE (by omega) (by omega),BM h.goodT (Aw hi hx)];refine AD fun k hk=>?_
 obtain⟨j,hj⟩:=Sb hk;obtain⟨h0,h1⟩:=(h.node hi hx).kids j k hj;exact h.atE h0 (by omega)
theorem RN(ns:List Nd)(k:Int):lN (c9 (aP ns) k).vals:=Mr (CG ns) k
theorem gW.ne(h:gW ns n){k:Int}(h0:0<=k)(h1:k<n)(hm:(c9 (aP ns) k).many=false):(c9 (aP ns) k).vals≠[]:=by
 rw[←h.atE h0 h1] at hm ⊢;obtain⟨k,rfl⟩:=R7 h0;exact FT _ h.okT h.val k k (R2 _) (by rw[SX];have:=h.hn;omega) hm
theorem gW.step(h:gW ns n){i:Nat}{x:Nd}(hi:i<n)(hx:ns[i]? = some x):gJ (ns.take i) (aX (ns.take i)) (cM (ns.take i)) x=0:=by
 have:=nW _ h.val i x (Aw hi hx)
 rwa [To,Tm (by omega)] at this
theorem gW.nodeOK(h:gW ns n){i:Nat}{x:Nd}(hi:i<n)(hx:ns[i]? = some x):EG i x:=by
 have:=kQ (gD (h.step hi hx)).1
 rwa [SX,Tm (by have:=h.hn;omega)] at this
theorem Oz{bs:List gR}{kids:List Int}{j:Nat}{k:Int}{a:List bB × Bool}(hk:kids[j]? = some k)(h:(kids.take j).foldl (bS bs) ([],false)=a) :
  (kids.take (j+1)).foldl (bS bs) ([],false)=bS bs a k:=by
 obtain⟨hj,he⟩:=Rt.1 hk;rw[Rv hj,S0,h,he];rfl
theorem Ip{bs:List gR}{kids:List Int}{j:Nat}(h:((kids.take j).foldl (bS bs) ([],false)).2=true):lH bs kids=⟨[],true⟩:=by
 have e:(kids.foldl (bS bs) ([],false)).2=true:=by
  conv=>lhs;rw[←SW j kids,S0]
  exact xK _ _ h
 unfold lH;rw[Rx e]
theorem Li{bs:List gR}{kids:List Int}{out:List bB}(h:kids.foldl (bS bs) ([],false)=(out,false)):lH bs kids=⟨out,false⟩:=by
 unfold lH;rw[h];rfl
def gK(bs:List gR)(a:Nat × Bool)(k:Int):Nat × Bool:=(a.1*(c9 bs k).vals.length,a.2 || (c9 bs k).many || decide (1024<a.1*(c9 bs k).vals.length))
theorem Fb{bs:List gR}:∀(l:List Int) (a:Nat × Bool),a.2=true->(l.foldl (gK bs) a).2=true
 | [],_,h=>h
 | k::r,a,h=>Fb r _ (by simp[gK,h])
theorem Ga{bs:List gR}(kids:List Int):e6 bs kids [[]]=if (kids.foldl (gK bs) (1,false)).2=true then none else some (pK (kids.map fun k=>(c9 bs k).vals).reverse):=by
 have:=Cz (bs:=bs) kids [] (by simp[jB]);simp only[pK,jB,Sh] at this;rw[this,List.map_reverse];rfl
theorem ON{bs:List gR}{kids:List Int}{j:Nat}{k:Int}{a:Nat × Bool}(hk:kids[j]? = some k)(h:(kids.take j).foldl (gK bs) (1,false)=a) :
  (kids.take (j+1)).foldl (gK bs) (1,false)=gK bs a k:=by
 obtain⟨hj,he⟩:=Rt.1 hk;rw[Rv hj,S0,h,he];rfl
theorem NP{bs:List gR}{x:Nd}{j:Nat}(h:((x.kids.take j).foldl (gK bs) (1,false)).2=true):oK bs x=⟨[],true⟩:=by
 have e:(x.kids.foldl (gK bs) (1,false)).2=true:=by
  conv=>lhs;rw[←SW j x.kids,S0]
  exact Fb _ _ h
 unfold oK;rw[Ga,Rx e]
theorem Lx{bs:List gR}:∀(kids:List Int) (a:Nat × Bool),(kids.foldl (gK bs) a).1=a.1*jB (kids.map fun k=>(c9 bs k).vals).reverse:=by
 intro kids;refine d6 (P:=fun kids=>∀a:Nat × Bool,(kids.foldl (gK bs) a).1=a.1*jB (kids.map fun k=>(c9 bs k).vals).reverse) (fun a=>by simp[jB]) (fun l x ih a=>?_) kids;rw[S0,Te,List.reverse_append];simp only[Sd,List.foldl_nil,Su,List.map_nil,List.reverse_singleton,List.singleton_append,jB];rw[gK,ih a,Nat.mul_assoc]
theorem KB{bs:List gR}(hb:∀b∈bs,lN b.vals){x:Nd}{t:Nat}(h:x.kids.foldl (gK bs) (1,false)=(t,false)) :
  oK bs x=⟨(pK (x.kids.map fun k=>(c9 bs k).vals).reverse).map (dJ x.name),false⟩/\t=jB (x.kids.map fun k=>(c9 bs k).vals).reverse:=by
 have hr:e6 bs x.kids [[]]=some (pK (x.kids.map fun k=>(c9 bs k).vals).reverse):=by
  rw[Ga,h];rfl
 refine⟨JJ hb hr, ?_⟩;have:=Lx (bs:=bs) x.kids (1,false);rw[h] at this;simpa using this
theorem Gm{ls:List (List bB)}{q kk:Nat}{l:List bB}{v:bB}(hl:ls[q]? = some l)(hv:l[kk%l.length]? = some v) :
  rowAt (ls.take (q+1)).reverse kk=rowAt (ls.take q).reverse (kk/l.length)++[v]:=by
 obtain⟨h1,h2⟩:=Rt.1 hl;rw[Rv h1,List.reverse_append,h2];simp only[List.reverse_singleton,List.singleton_append,rowAt,hv];rfl
end Go.Ax
namespace Go.Ax
open Go
structure Mt where
 old:Nat
 now:Nat
 opts:List Int
 same:List Bool
def aN(l:List Nd)(i:Nat):Nd:=l.getD i ⟨0,[],0,0,[],[],[],[],.mk 0 0 [] []⟩
def bE(y:Nd)(k:Int):Nat:=(y.kids.getD k.toNat 0).toNat
structure qT(A:List Nd):Prop where
 ok:∀x∈A,rL x
 val:∀x∈A,bH x.value<=1048576
 vals:∀x∈A,∀v∈x.values,bH v<=1048576
 vlen:∀x∈A,x.values.length<=2000
 klen:∀x∈A,x.kids.length<=2000
 llen:∀x∈A,x.labels.length<=1000
 lab:∀x∈A,∀s∈x.labels,s.length<=1000
 len:A.length<=1000
structure Nv(A:List Nd)(i:Nat)(x:Nd):Prop where
 opt:Pp x
 node:EG i x
 srt:lN x.values
 val:∀v∈x.values,iA v
theorem sI:∀{l:List bB},eE l=true->lN l
 | [],_=>by simp[lN]
 | [a],_=>by simp[lN]
 | a::b::r,h=>by
  simp only[eE,Rr,SP] at h;have ih:=sI h.2;unfold lN at ih ⊢;refine SV.2 ⟨fun x hx=>?_,ih⟩;rcases Rz.1 hx with rfl|hx
  ·exact h.1
  ·have:=(SV.1 ih).1 x hx;exact E5 h.1 (by omega)
theorem goodT{A:List Nd}(h:qT A)(hv:cP A=0){i:Nat}{x:Nd}(hx:A[i]? = some x):Nv A i x:=by
 have hxm:=R3 hx;have hv0:b9 [] A=0:=by
  unfold cP at hv;split at hv
  ·omega
  ·exact hv
 have hn:=nY A hv0 i x hx;have hN:=kQ hn;have hf:=g5 hn;have hfp:=mZ hf;have hk:=h.klen x hxm;refine⟨⟨h.ok x hxm,cA hN.num,by omega,fun e=>by have:=hN.klen (by omega);omega,fun e=>?_⟩,hN, ?_,fun v hv=>((h.ok x hxm).valuesI v hv).1⟩
 ·refine⟨hfp.1 e, ?_⟩;unfold cV at hf;simp only[Rr,Sv,SP] at hf;rcases hf.1.1.1.2 with h2|h2
  ·exact absurd e h2
  ·exact h2.2
 ·unfold cV at hf;simp only[Rr] at hf;exact sI hf.2
theorem JB{A:List Nd}(ho:∀x∈A,rL x)(hv:cP A=0){i:Nat}{x:Nd}(hx:A[i]? = some x)(h4:x.kind=4):1<=x.values.length:=by
 have hv0:b9 [] A=0:=by
  unfold cP at hv;split at hv
  ·omega
  ·exact hv
 have hi:=(Rt.1 hx).1;have hpre:b9 [] (A.take i)=0:=by
  have:=hv0;rw[←SW i A] at this;exact iS this
 obtain⟨q,hq,-⟩:=EP (ns:=A.take i) (fun y hy=>ho y (Se hy)) hpre (x:=x) (.inr h4) (nW A hv0 i x hx);have hb:=(kQ (nY A hv0 i x hx)).bind h4;unfold dX at hq;rw[Rp (by omega)] at hq;have:=List.length_pos_of_mem hq;simp at this;omega
theorem PV{A:List Nd}{n:Nat}{y:Nd}(hy:EG n y){k:Int}(h0:0<=k)(h1:k<y.kids.length):bE y k<n/\∃q:Int,y.kids[k.toNat]? = some q/\q=bE y k:=by
 have hk:k.toNat<y.kids.length:=by omega
 obtain⟨a,b⟩:=hy.kids k.toNat _ (Rm hk);unfold bE;rw[Rn,Rm hk];simp only[TG];exact⟨by omega,_,rfl,by omega⟩
theorem y9(a:bB):cN a a=0:=(lU a).refl
theorem iZ{l:List bB}(h:lN l){x:bB}(hx:x∈l):∃k,d9 l x=(k,true)/\k<l.length/\l[k]? = some x:=by
 obtain⟨k,hk,rfl⟩:=UX hx;have hg:l[k]? = some l[k]:=Rm hk;refine⟨k, ?_,hk,hg⟩;rw[rW (Nat.le_of_lt hk) (fun p a hp ha=>lN.get h hp ha hg) (fun a ha=>by rw[hg] at ha;cases ha;rw[y9];omega)];unfold EN;rw[hg];simp[y9]
end Go.Ax
namespace Go.Ax
open Go
abbrev Sp:=Nat × Nat × Nat
def vZ:bB:=.mk 0 0 [] []
structure yO where
 val:bB
 used:Nat
 stop:Int
 spans:List Sp
structure Pt where
 used:Nat
 vals:List bB
 spans:List Sp
 stop:Int
def fM(x:Nd):Int:=if x.kind=1 then x.hi-x.lo+1 else x.kids.length
def bR(rd:Nat->Nat->yO)(a0:Nat):List Int->Pt->Pt
 | [],s=>s
 | k::ks,s=>
  if (rd k.toNat (a0+s.used)).stop = -1 then
   bR rd a0 ks ⟨s.used+(rd k.toNat (a0+s.used)).used,s.vals++[(rd k.toNat (a0+s.used)).val],s.spans++(a0,a0+s.used,a0+s.used+(rd k.toNat (a0+s.used)).used)::(rd k.toNat (a0+s.used)).spans,-1⟩
  else⟨s.used+(rd k.toNat (a0+s.used)).used,s.vals++[(rd k.toNat (a0+s.used)).val],s.spans++(a0,a0+s.used,a0+s.used+(rd k.toNat (a0+s.used)).used)::(rd k.toNat (a0+s.used)).spans,(rd k.toNat (a0+s.used)).stop⟩
def Ca(x:Nd)(s:Pt):yO:=⟨if s.stop = -1 then dJ x.name s.vals else vZ,s.used,s.stop,s.spans⟩
def a6(A:List Nd)(p:List Int):Nat->Nat->Nat->yO
 | 0,_,_=>⟨vZ,0,-2,[]⟩
 | f+1,i,a0=>
  if (aN A i).kind=0 then⟨(aN A i).value,0,-1,[]⟩
  else if (aN A i).kind=3 then Ca (aN A i) (bR (fun k q=>a6 A p f k q) a0 (aN A i).kids ⟨0,[],[],-1⟩)
  else if (aN A i).kind=4 then
   if (a6 A p f (bE (aN A i) 0) a0).stop = -1 then
    ⟨(a6 A p f (bE (aN A i) ((d9 (aN A i).values (a6 A p f (bE (aN A i) 0) a0).val).1+1:Nat)) (a0+(a6 A p f (bE (aN A i) 0) a0).used)).val,
     (a6 A p f (bE (aN A i) 0) a0).used+(a6 A p f (bE (aN A i) ((d9 (aN A i).values (a6 A p f (bE (aN A i) 0) a0).val).1+1:Nat)) (a0+(a6 A p f (bE (aN A i) 0) a0).used)).used,
     (a6 A p f (bE (aN A i) ((d9 (aN A i).values (a6 A p f (bE (aN A i) 0) a0).val).1+1:Nat)) (a0+(a6 A p f (bE (aN A i) 0) a0).used)).stop,
     (a6 A p f (bE (aN A i) 0) a0).spans++(a6 A p f (bE (aN A i) ((d9 (aN A i).values (a6 A p f (bE (aN A i) 0) a0).val).1+1:Nat)) (a0+(a6 A p f (bE (aN A i) 0) a0).used)).spans⟩
   else a6 A p f (bE (aN A i) 0) a0
  else if p.length<=a0 then⟨vZ,0,i,[]⟩
  else if p.getD a0 0<0∨fM (aN A i)<=p.getD a0 0 then⟨vZ,0,-2,[]⟩
  else if (aN A i).kind=1 then⟨.mk 0 ((aN A i).lo+p.getD a0 0) [] [],1,-1,[]⟩
  else⟨(a6 A p f (bE (aN A i) (p.getD a0 0)) (a0+1)).val,(a6 A p f (bE (aN A i) (p.getD a0 0)) (a0+1)).used+1,(a6 A p f (bE (aN A i) (p.getD a0 0)) (a0+1)).stop,(a6 A p f (bE (aN A i) (p.getD a0 0)) (a0+1)).spans⟩
structure VT(A:List Nd):Prop where
 tin:qT A
 val:cP A=0
 pos:0<A.length
section
variable {A:List Nd}
theorem VT.v0(h:VT A):b9 [] A=0:=by
 have hv:=h.val;unfold cP at hv;split at hv
 ·omega
 ·exact hv
theorem VT.set(h:VT A):gW A A.length:=⟨R2 _,by have:=h.tin.len;omega,h.tin.ok,by rw[SD];exact h.v0⟩
theorem VT.node(h:VT A){i:Nat}{x:Nd}(hx:A[i]? = some x):Nv A i x:=goodT h.tin h.val hx
theorem dS{i:Nat}(hi:i<A.length):A[i]? = some (aN A i):=by
 unfold aN;rw[Rn,Rm hi];rfl
theorem VT.kid(h:VT A){i:Nat}{x:Nd}(hx:A[i]? = some x){j:Nat}(hj:j<x.kids.length):bE x j<i/\x.kids[j]? = some (bE x j:Int):=by
 have hi:=(Rt.1 hx).1;obtain⟨h1,q,h2,h3⟩:=PV (A:=A) (h.node hx).node (k:=(j:Int)) (by omega) (by omega);refine⟨h1, ?_⟩;rw[Rq] at h2;rw[h2,h3]
theorem VT.lst(h:VT A){i:Nat}{x:Nd}(hx:A[i]? = some x):c9 (aP A) i=cW x (aP A):=h.set.at (Rt.1 hx).1 hx
theorem DF:∀{l m:List bB},dU l m=true->l=m
 | [],[],_=>rfl
 | a::l,b::m,h=>by
  simp only[dU,Rr,SP] at h;rw[GG a b h.1,DF h.2]
 | [],b::m,h=>by simp[dU] at h
 | a::l,[],h=>by simp[dU] at h
theorem VT.bind(h:VT A){i:Nat}{x:Nd}(hx:A[i]? = some x)(h4:x.kind=4):x.kids.length=x.values.length+1/\1<=x.values.length/\(c9 (aP A) (bE x 0)).many=false/\(c9 (aP A) (bE x 0)).vals=x.values:=by
 have hi:=(Rt.1 hx).1;have hb:=(h.node hx).node.bind h4;have h1:=JB h.tin.ok h.val hx h4;refine⟨hb,h1, ?_⟩;obtain⟨k1,k2⟩:bE x 0<i/\x.kids[0]? = some (bE x 0:Int):=h.kid hx (j:=0) (by omega);have hs:=(gD (nW A h.v0 i x hx)).2.2.2 h4;have e0:x.kids.getD 0 0=(bE x 0:Int):=by rw[Rn,k2];rfl
 unfold e8 at hs;rw[e0,Rq,To,Tm (by omega),j8 (by omega) (by omega) (by omega)] at hs;simp only at hs;split at hs
 ·omega
 ·rename_i hm;split at hs
  ·rename_i hsv;exact⟨by simpa using hm,DF hsv⟩
  ·omega
end
def If(bs:List gR):List Int->List bB->Prop
 | [],[]=>True
 | k::ks,v::vs=>((c9 bs k).many=false->v∈(c9 bs k).vals)/\If bs ks vs
 | _,_=>False
theorem DT{bs:List gR}:∀(ks:List Int) (vs:List bB) (rows out:List (List bB)) (r:List bB),e6 bs ks rows=some out->r∈rows->If bs ks vs->r++vs∈out
 | [],[],rows,out,r,h,hr,_=>by simp only[e6] at h;cases h;simpa using hr
 | [],v::vs,rows,out,r,h,hr,ha=>ha.elim
 | k::ks,[],rows,out,r,h,hr,ha=>ha.elim
 | k::ks,v::vs,rows,out,r,h,hr,ha=>by
  simp only[e6] at h;split at h
  ·cases h
  ·rename_i hm;rw[not_or] at hm;have hv:=ha.1 (by simpa using hm.1);have:=DT ks vs _ out (r++[v]) h (by
    unfold gE;exact T5.2 ⟨r,hr,SJ.2 ⟨v,hv,rfl⟩⟩) ha.2
   simpa using this
theorem Fq{bs:List gR}:∀(ks:List Int) (a:List bB × Bool),(ks.foldl (bS bs) a).2=false->(∀v∈a.1,v∈(ks.foldl (bS bs) a).1)/\∀k∈ks,(c9 bs k).many=false/\∀v∈(c9 bs k).vals,v∈(ks.foldl (bS bs) a).1
 | [],a,h=>⟨fun v hv=>hv,fun k hk=>by simp at hk⟩
 | k::ks,a,h=>by
  rw[Sd] at h ⊢;obtain⟨h1,h2⟩:=Fq ks _ h;have hs:(bS bs a k).2=false:=by
   cases e:(bS bs a k).2 with
   | false=>rfl
   | true=>rw[xK _ _ e] at h;cases h
  simp only[bS,Ty] at hs;refine⟨fun v hv=>h1 v (by simp only[bS];rw[nI];exact SU _ hv),fun q hq=>?_⟩;rcases Rz.1 hq with rfl|hq
  ·exact⟨hs.1.2,fun v hv=>h1 v (by simp only[bS];rw[nI];exact TK _ hv)⟩
  ·exact h2 q hq
theorem Fo{bs:List gR}{ks:List Int}{k:Int}{v:bB}(hk:k∈ks)(hm:(lH bs ks).many=false)(hv:(c9 bs k).many=false->v∈(c9 bs k).vals):v∈(lH bs ks).vals:=by
 unfold lH at hm ⊢;split at hm
 ·simp at hm
 ·rename_i h2;have h2:(ks.foldl (bS bs) ([],false)).2=false:=by simpa using h2
  rw[Rp (by rw[h2];simp)];obtain⟨h3,h4⟩:=(Fq ks _ h2).2 k hk;exact h4 v (hv h3)
theorem Bi{n:List UInt8}{vs:List bB}(hn:n.length<=4294967296)(hl:vs.length<=4294967296)(h:∀v∈vs,iA v):iA (dJ n vs):=by
 have z:∀k:Int,0<=k->k<=3->i64 k:=fun k h1 h2=>⟨by omega,by omega⟩
 unfold dJ;split
 ·exact jJ (z 2 (by omega) (by omega)) (z 0 (by omega) (by omega)) (by simp) hl (qI h)
 ·exact jJ (z 3 (by omega) (by omega)) (z 0 (by omega) (by omega)) hn hl (qI h)
theorem FN{rd:Nat->Nat->yO}{a0:Nat}{bs:List gR}:∀(ks:List Int) (s:Pt),(∀k∈ks,∀q,(rd k.toNat q).stop = -1->iA (rd k.toNat q).val/\((c9 bs k).many=false->(rd k.toNat q).val∈(c9 bs k).vals))->(∀v∈s.vals,iA v)->(bR rd a0 ks s).stop = -1 ->
  ∃vs,(bR rd a0 ks s).vals=s.vals++vs/\If bs ks vs/\∀v∈vs,iA v
 | [],s,_,_,_=>⟨[],by simp[bR],trivial,by simp⟩
 | k::ks,s,hr,hs,h=>by
  simp only[bR] at h ⊢;split at h
  ·rename_i hst;rw[Rx hst];obtain⟨o1,o2⟩:=hr k (SL ..) _ hst;obtain⟨vs,h1,h2,h3⟩:=FN ks _ (fun q hq=>hr q (SE _ hq)) (fun v hv=>by
    rcases R5.1 hv with hv|hv
    ·exact hs v hv
    ·simp at hv;rw[hv];exact o1) h
   refine⟨(rd k.toNat (a0+s.used)).val::vs,by rw[h1];simp,⟨o2,h2⟩,fun v hv=>?_⟩
   ·rcases Rz.1 hv with rfl|hv
    ·exact o1
    ·exact h3 v hv
  ·rename_i hst;exact absurd h hst
end Go.Ax
namespace Go.Ax
open Go
theorem fF{A:List Nd}(h:VT A){i:Nat}{x:Nd}(hx:A[i]? = some x){k:Int}(hk:k∈x.kids):0<=k/\k.toNat<i:=by
 obtain⟨j,hj⟩:=Sb hk;have:=(h.node hx).node.kids j k hj;omega
theorem VT.kidI{A:List Nd}(h:VT A){i:Nat}{x:Nd}(hx:A[i]? = some x){c:Int}(h0:0<=c)(h1:c<x.kids.length):bE x c<i/\(bE x c:Int)∈x.kids/\x.kids[c.toNat]? = some (bE x c:Int):=by
 obtain⟨j,rfl⟩:=R7 h0;obtain⟨k1,k2⟩:=h.kid hx (j:=j) (by omega);exact⟨k1,R3 k2,by rw[Rq];exact k2⟩
theorem mH{A:List Nd}(h:VT A)(p:List Int):∀f i a0,i<f->i<A.length->(a6 A p f i a0).stop = -1->iA (a6 A p f i a0).val/\((c9 (aP A) i).many=false->(a6 A p f i a0).val∈(c9 (aP A) i).vals)
 | 0,i,a0,hf,hi,hs=>by omega
 | f+1,i,a0,hf,hi,hs=>by
  have hx:=dS hi;have hg:=h.node hx;have hN:=hg.node;have hok:=h.tin.ok _ (R3 hx);have hkm:=fun(k:Int) (hk:k∈(aN A i).kids)=>fF h hx hk
  have hkI:=fun(c:Int) (h0:0<=c) (h1:c<(aN A i).kids.length)=>h.kidI hx h0 h1
  have hbi:=fun h4=>h.bind hx h4
  rw[h.lst hx];simp only[a6] at hs ⊢;have ih:=fun(k:Nat) (a:Nat) (hk:k<i)=>mH h p f k a (by omega) (by omega)
  generalize aN A i=x at *;by_cases k0:x.kind=0
  ·rw[Rx k0];refine⟨hok.value,fun _=>?_⟩;unfold cW;rw[Rx k0];simp
  rw[Rp k0] at hs ⊢;by_cases k3:x.kind=3
  ·rw[Rx k3] at hs ⊢;simp only[Ca] at hs ⊢;rw[Rx hs];obtain⟨vs,h1,h2,h3⟩:=FN (bs:=aP A) x.kids ⟨0,[],[],-1⟩ (fun k hk q hst=>by
    have:=hkm k hk;have hi2:=ih k.toNat q this.2 hst
    rwa [show ((k.toNat:Nat):Int)=k by omega] at hi2) (by simp) hs
   rw[h1];simp only[SY];have hlen:vs.length=x.kids.length:=by
    have:∀(ks:List Int) (vs:List bB),If (aP A) ks vs->vs.length=ks.length:=by
     intro ks
     induction ks with
     | nil=>intro vs h;cases vs with
      | nil=>rfl
      | cons v vs=>exact h.elim
     | cons k ks ih=>intro vs h;cases vs with
      | nil=>exact h.elim
      | cons v vs=>simp[ih vs h.2]
    exact this _ _ h2
   refine⟨Bi (by have:=hok.name;omega) (by have:=hok.kids;omega) h3,fun hm=>?_⟩;unfold cW at hm ⊢;rw[Rp k0,Rp (by omega),Rx k3] at hm ⊢;unfold oK at hm ⊢;split at hm
   ·simp at hm
   ·rename_i rows hr;simp only;rw[nI];exact SJ.2 ⟨vs,by simpa using DT x.kids vs [[]] rows [] hr (by simp) h2,rfl⟩
  rw[Rp k3] at hs ⊢;by_cases k4:x.kind=4
  ·rw[Rx k4] at hs ⊢;obtain⟨b1,b2,b3,b4⟩:=hbi k4;split at hs
   ·rename_i hst;rw[Rx hst];simp only at hs ⊢;obtain⟨c1,-,-⟩:=hkI 0 (by omega) (by omega);obtain⟨-,m1⟩:=ih _ a0 c1 hst;have m1:=m1 b3;rw[b4] at m1;obtain⟨q,fq,q1,q2⟩:=iZ hg.srt m1;rw[fq] at hs ⊢;simp only at hs ⊢;obtain⟨d1,d2,d3⟩:=hkI ((q+1:Nat):Int) (by omega) (by omega);obtain⟨e1,e2⟩:=ih _ _ d1 hs;refine⟨e1,fun hm=>?_⟩;unfold cW at hm ⊢;rw[Rp k0,Rp (by omega),Rp k3,Rx k4] at hm ⊢;refine Fo (k:=(bE x ((q+1:Nat):Int):Int)) ?_ hm e2;rw[Rq] at d3;refine R3 (i:=q) ?_;rw[SZ,Nat.add_comm];exact d3
   ·rename_i hst;exact absurd hs hst
  rw[Rp k4] at hs ⊢;split at hs
  ·simp at hs
  rename_i hp;rw[Rp hp];split at hs
  ·simp at hs
  rename_i hc;rw[Rp hc];rw[not_or] at hc;by_cases k1:x.kind=1
  ·rw[Rx k1] at hs ⊢;simp only;have ho:fM x=x.hi-x.lo+1:=by unfold fM;rw[Rx k1]
   have hr:=cA hN.num;generalize p.getD a0 0=c at *;refine⟨gQ ⟨by omega,by omega⟩ ⟨by omega,by omega⟩,fun hm=>?_⟩;unfold cW at hm ⊢;rw[Rp k0,Rx k1] at hm ⊢;split at hm
   ·simp at hm
   ·rename_i hr;rw[Rp hr];simp only[gX];exact SJ.2 ⟨c.toNat,Tl.2 (by omega),by rw[Int.toNat_of_nonneg (by omega)]⟩
  ·rw[Rp k1] at hs ⊢;simp only at hs ⊢;have ho:fM x=x.kids.length:=by unfold fM;rw[Rp k1]
   have hk2:=hN.kind;obtain⟨d1,d2,d3⟩:=hkI (p.getD a0 0) (by omega) (by omega);obtain⟨e1,e2⟩:=ih _ _ d1 hs;refine⟨e1,fun hm=>?_⟩;unfold cW at hm ⊢;rw[Rp k0,Rp k1,Rp k3,Rp (by omega)] at hm ⊢;exact Fo d2 hm e2
def Jw(a b:Nat)(l:List Sp):Prop:=∀s∈l,a<=s.1/\s.1<=s.2.1/\s.2.1<=s.2.2/\s.2.2<=b
theorem Jw.mono{a b a' b':Nat}{l:List Sp}(h:Jw a b l)(h1:a'<=a)(h2:b<=b'):Jw a' b' l:=fun s hs=>by
 have:=h s hs;omega
theorem Jw.app{a b:Nat}{l m:List Sp}(h:Jw a b l)(h':Jw a b m):Jw a b (l++m):=fun s hs=>by
 rcases R5.1 hs with hs|hs
 ·exact h s hs
 ·exact h' s hs
theorem Ev{rd:Nat->Nat->yO}{a0 n:Nat}(hr:∀(k q:Nat),q<=n->q+(rd k q).used<=n/\Jw q (q+(rd k q).used) (rd k q).spans):∀(ks:List Int) (s:Pt),a0+s.used<=n->Jw a0 (a0+s.used) s.spans->a0+(bR rd a0 ks s).used<=n/\Jw a0 (a0+(bR rd a0 ks s).used) (bR rd a0 ks s).spans
 | [],s,h1,h2=>⟨h1,h2⟩
 | k::ks,s,h1,h2=>by
  simp only[bR];obtain⟨g1,g2⟩:=hr k.toNat (a0+s.used) h1;have g3:Jw a0 (a0+(s.used+(rd k.toNat (a0+s.used)).used)) (s.spans++(a0,a0+s.used,a0+s.used+(rd k.toNat (a0+s.used)).used)::(rd k.toNat (a0+s.used)).spans):=by
   refine(h2.mono (R2 _) (by omega)).app fun t ht=>?_
   rcases Rz.1 ht with rfl|ht
   ·simp only;omega
   ·have:=g2 t ht;omega
  split
  ·exact Ev hr ks _ (by simp only;omega) g3
  ·exact⟨by simp only;omega,g3⟩
theorem tH{A:List Nd}(p:List Int):∀f i a0,a0<=p.length->a0+(a6 A p f i a0).used<=p.length/\Jw a0 (a0+(a6 A p f i a0).used) (a6 A p f i a0).spans
 | 0,i,a0,ha=>⟨ha,fun s hs=>by simp[a6] at hs⟩
 | f+1,i,a0,ha=>by
  have ih:=tH (A:=A) p f;simp only[a6];split
  ·exact⟨ha,fun s hs=>by simp at hs⟩
  split
  ·exact Ev (fun k q hq=>ih k q hq) _ _ ha fun s hs=>by simp at hs
  split
  ·split
   ·obtain⟨g1,g2⟩:=ih (bE (aN A i) 0) a0 ha;obtain⟨g3,g4⟩:=ih (bE (aN A i) ((d9 (aN A i).values (a6 A p f (bE (aN A i) 0) a0).val).1+1:Nat)) _ g1;refine⟨by simp only;omega, ?_⟩;exact(g2.mono (R2 _) (by simp only;omega)).app (g4.mono (by omega) (by simp only;omega))
   ·exact ih _ a0 ha
  split
  ·exact⟨ha,fun s hs=>by simp at hs⟩
  rename_i hp;split
  ·exact⟨ha,fun s hs=>by simp at hs⟩
  split
  ·exact⟨by simp only;omega,fun s hs=>by simp at hs⟩
  ·obtain⟨g1,g2⟩:=ih (bE (aN A i) (p.getD a0 0)) (a0+1) (by omega);exact⟨by simp only;omega,g2.mono (by omega) (by simp only;omega)⟩
end Go.Ax
namespace Go.Ax
open Go
theorem Iz(r:List Nd):∀l:List Nd,∃m,aX (l++r)=aX l++m:=by
 refine d6 (P:=fun r=>∀l:List Nd,∃m,aX (l++r)=aX l++m) (fun l=>⟨[],by simp⟩) (fun r x ih l=>?_) r;obtain⟨m,hm⟩:=ih l;refine⟨m++[eU (aX (l++r)) x], ?_⟩;rw[←SC,gC,hm,SC]
theorem zK{A:List Nd}{n:Nat}{k:Int}(h0:0<=k)(h:k<n)(hn:n<=A.length):d7 (aX (A.take n)) k=d7 (aX A) k:=by
 obtain⟨m,hm⟩:=Iz (A.drop n) (A.take n);rw[SW] at hm;rw[hm,H8 h0 (by rw[eY,SX];omega)]
def vR(ls:List Int)(fs:List bB)(x:Nd):bB:=
 if 0<eU ls x then vZ else if x.kind=0 then x.value else if x.kind=3 then dJ x.name (x.kids.map fun k=>fs.getD k.toNat vZ) else if x.kind=4 then fs.getD (bE x 1) vZ else vZ
def I2(nodes:List Nd):List Int × List bB:=nodes.foldl (fun s x=>(s.1++[eU s.1 x],s.2++[vR s.1 s.2 x])) ([],[])
def cS(nodes:List Nd):List bB:=(I2 nodes).2
theorem KZ(l:List Nd):(I2 l).1=aX l:=by
 refine d6 (P:=fun l=>(I2 l).1=aX l) rfl (fun l x ih=>?_) l;rw[gC,←ih];unfold I2;rw[S0];rfl
theorem tZ(l:List Nd)(x:Nd):cS (l++[x])=cS l++[vR (aX l) (cS l) x]:=by
 rw[←KZ];unfold cS I2;rw[S0];rfl
theorem iV(l:List Nd):(cS l).length=l.length:=by
 refine d6 (P:=fun l=>(cS l).length=l.length) rfl (fun l x ih=>?_) l;rw[tZ];simp[ih]
theorem KP(r:List Nd):∀l:List Nd,∃m,cS (l++r)=cS l++m:=by
 refine d6 (P:=fun r=>∀l:List Nd,∃m,cS (l++r)=cS l++m) (fun l=>⟨[],by simp⟩) (fun r x ih l=>?_) r;obtain⟨m,hm⟩:=ih l;refine⟨m++[vR (aX (l++r)) (cS (l++r)) x], ?_⟩;rw[←SC,tZ,hm,SC]
def CX(l:List bB)(k:Nat):bB:=l.getD k vZ
theorem NF{l m:List bB}{k:Nat}(h:k<l.length):CX (l++m) k=CX l k:=by
 unfold CX;rw[Rn,Rn,SG h]
theorem Av{A:List Nd}{n k:Nat}(h:k<n)(hn:n<=A.length):CX (cS (A.take n)) k=CX (cS A) k:=by
 obtain⟨m,hm⟩:=KP (A.drop n) (A.take n);rw[SW] at hm;rw[hm,NF (by rw[iV,SX];omega)]
def wQ(ls:List Int)(ps:List Bool)(x:Nd):Bool:=decide (eU ls x<=0) && (decide (x.kind≠3) || decide (x.kids.length=0)) && x.kids.all fun k=>ps.getD k.toNat false
def Jb(nodes:List Nd):List Int × List Bool:=nodes.foldl (fun s x=>(s.1++[eU s.1 x],s.2++[wQ s.1 s.2 x])) ([],[])
def cU(nodes:List Nd):List Bool:=(Jb nodes).2
theorem K7(l:List Nd):(Jb l).1=aX l:=by
 refine d6 (P:=fun l=>(Jb l).1=aX l) rfl (fun l x ih=>?_) l;rw[gC,←ih];unfold Jb;rw[S0];rfl
theorem tO(l:List Nd)(x:Nd):cU (l++[x])=cU l++[wQ (aX l) (cU l) x]:=by
 rw[←K7];unfold cU Jb;rw[S0];rfl
theorem iP(l:List Nd):(cU l).length=l.length:=by
 refine d6 (P:=fun l=>(cU l).length=l.length) rfl (fun l x ih=>?_) l;rw[tO];simp[ih]
theorem Lg(r:List Nd):∀l:List Nd,∃m,cU (l++r)=cU l++m:=by
 refine d6 (P:=fun r=>∀l:List Nd,∃m,cU (l++r)=cU l++m) (fun l=>⟨[],by simp⟩) (fun r x ih l=>?_) r;obtain⟨m,hm⟩:=ih l;refine⟨m++[wQ (aX (l++r)) (cU (l++r)) x], ?_⟩;rw[←SC,tO,hm,SC]
def Jy(l:List Bool)(k:Nat):Bool:=l.getD k false
theorem NQ{l m:List Bool}{k:Nat}(h:k<l.length):Jy (l++m) k=Jy l k:=by
 unfold Jy;rw[Rn,Rn,SG h]
theorem FS{A:List Nd}{n k:Nat}(h:k<n)(hn:n<=A.length):Jy (cU (A.take n)) k=Jy (cU A) k:=by
 obtain⟨m,hm⟩:=Lg (A.drop n) (A.take n);rw[SW] at hm;rw[hm,NQ (by rw[iP,SX];omega)]
section
variable {A:List Nd}
theorem VT.lenC(h:VT A){i:Nat}{x:Nd}(hx:A[i]? = some x){n:Nat}(hi:i<=n)(hn:n<=A.length):eU (aX (A.take n)) x=eU (aX A) x:=by
 refine vK (fun k hk=>?_) (fun h4=>by have:=(h.bind hx h4).1;omega) (h.node hx).node.kind;have:=fF h hx hk;exact zK this.1 (by omega) hn
theorem VT.len(h:VT A){i:Nat}{x:Nd}(hx:A[i]? = some x):d7 (aX A) i=eU (aX A) x:=by
 obtain⟨hi,he⟩:=Rt.1 hx;rw[←zK (n:=i+1) (by omega) (by omega) (by omega),Rv hi,gC,he,h.lenC hx (R2 _) (by omega)];unfold d7;rw[Rq,Rn,SK (by rw[eY];simp;omega),eY];simp[show min i A.length=i by omega]
theorem VT.lens0(h:VT A)(k:Int):0<=d7 (aX A) k/\d7 (aX A) k<=1024:=by
 unfold d7;rw[Rn];cases e:(aX A)[k.toNat]? with
 | none=>simp
 | some b=>exact(g6 A h.v0).1 b (R3 e)
theorem VT.fixC(h:VT A){i:Nat}{x:Nd}(hx:A[i]? = some x){n:Nat}(hi:i<=n)(hn:n<=A.length):vR (aX (A.take n)) (cS (A.take n)) x=vR (aX A) (cS A) x:=by
 unfold vR;rw[h.lenC hx hi hn];split
 ·rfl
 split
 ·rfl
 split
 ·congr 1;refine List.map_congr_left fun k hk=>?_
  have:=fF h hx hk;exact Av (by omega) hn
 split
 ·rename_i h4;obtain⟨b1,b2,-⟩:=h.bind hx h4;have:bE x ((1:Nat):Int)<i:=(h.kid hx (j:=1) (by omega)).1;exact Av (show bE x 1<n by have:bE x 1<i:=this;omega) hn
 ·rfl
theorem VT.fix(h:VT A){i:Nat}{x:Nd}(hx:A[i]? = some x):CX (cS A) i=vR (aX A) (cS A) x:=by
 obtain⟨hi,he⟩:=Rt.1 hx;rw[←Av (n:=i+1) (by omega) (by omega),Rv hi,tZ,he,h.fixC hx (R2 _) (by omega)];unfold CX;rw[Rn,SK (by rw[iV];simp;omega),iV];simp[show min i A.length=i by omega]
theorem VT.plnC(h:VT A){i:Nat}{x:Nd}(hx:A[i]? = some x){n:Nat}(hi:i<=n)(hn:n<=A.length):wQ (aX (A.take n)) (cU (A.take n)) x=wQ (aX A) (cU A) x:=by
 unfold wQ;rw[h.lenC hx hi hn];congr 1;rw[Sj,S5,S5];have e:∀k∈x.kids,(cU (A.take n)).getD k.toNat false=(cU A).getD k.toNat false:=fun k hk=>by
  have:=fF h hx hk;exact FS (by omega) hn
 exact⟨fun g k hk=>by rw[←e k hk];exact g k hk,fun g k hk=>by rw[e k hk];exact g k hk⟩
theorem VT.pln(h:VT A){i:Nat}{x:Nd}(hx:A[i]? = some x):Jy (cU A) i=wQ (aX A) (cU A) x:=by
 obtain⟨hi,he⟩:=Rt.1 hx;rw[←FS (n:=i+1) (by omega) (by omega),Rv hi,tO,he,h.plnC hx (R2 _) (by omega)];unfold Jy;rw[Rn,SK (by rw[iP];simp;omega),iP];simp[show min i A.length=i by omega]
theorem JX{b:List Int}(hb:∀k,0<=d7 b k):∀(l:List Int),fC b l=0->∀k∈l,d7 b k=0:=by
 have key:∀(l:List Int) (s:Int),0<=s->l.foldl (fun s k=>s+d7 b k) s=0->s=0/\∀k∈l,d7 b k=0:=by
  intro l
  induction l with
  | nil=>intro s h0 h;exact⟨h,by simp⟩
  | cons k l ih=>
   intro s h0 h;rw[Sd] at h;have hk:=hb k;obtain⟨h1,h2⟩:=ih _ (by omega) h;refine⟨by omega,fun q hq=>?_⟩;rcases Rz.1 hq with rfl|hq
   ·omega
   ·exact h2 q hq
 exact fun l h=>(key l 0 (Int.le_refl _) h).2
theorem VT.len0(h:VT A){i:Nat}{x:Nd}(hx:A[i]? = some x)(h0:d7 (aX A) i=0):x.kind≠1/\x.kind≠2/\(x.kind=3->∀k∈x.kids,d7 (aX A) k=0) /\
  (x.kind=4->d7 (aX A) (bE x 0)=0/\∀k∈x.kids.drop 1,d7 (aX A) k=0):=by
 rw[h.len hx] at h0;have hb:=fun k=>(h.lens0 k).1
 unfold eU at h0;refine⟨fun e=>?_,fun e=>?_,fun e=>?_,fun e=>?_⟩
 ·rw[Rp (by omega),Rx e] at h0;omega
 ·rw[Rp (by omega),Rp (by omega),Rp (by omega),Rx e] at h0;have:=(gA (b:=aX A) (M:=1024) (by omega) (g6 A h.v0).1 (dX x)).1;omega
 ·rw[Rp (by omega),Rp (by omega),Rx e] at h0;exact JX hb _ h0
 ·rw[Rp (by omega),Rp (by omega),Rp (by omega),Rp (by omega)] at h0;have hm:=(gA (b:=aX A) (M:=1024) (by omega) (g6 A h.v0).1 (dX x)).1;have hk:(x.kids.getD 0 0)=(bE x 0:Int):=by
   have:=(h.bind hx e).1;have h2:x.kids[0]? = some (bE x 0:Int):=(h.kid hx (j:=0) (by omega)).2;rw[Rn,h2];rfl
  rw[hk] at h0;have:=hb (bE x 0);refine⟨by omega,fun k hk=>?_⟩;have ha:k∈dX x:=by unfold dX;rw[Rp (by omega)];exact hk
  have h1:=(n7 (ss:=aX A) (dX x) 0 k ha).1;have h1:d7 (aX A) k<=cR (aX A) (dX x):=h1;have:=hb k;omega
theorem Dp(v:bB):eJ [v]=[v]:=by simp[eJ,rY,d9]
theorem GV{bs:List gR}{g:Int->bB}:∀(ks:List Int) (r:List bB),(∀k∈ks,c9 bs k=⟨[g k],false⟩)->e6 bs ks [r]=some [r++ks.map g]
 | [],r,_=>by simp[e6]
 | k::ks,r,h=>by
  simp only[e6];rw[h k (SL ..)];rw[Rp (by simp)];simp only[gE,Tn,List.flatMap_nil,Su,List.map_nil,Sh];rw[GV ks (r++[g k]) fun q hq=>h q (SE _ hq)];simp
theorem J5(h:VT A):∀i,i<A.length->d7 (aX A) i=0->c9 (aP A) i=⟨[CX (cS A) i],false⟩:=by
 intro i
 induction i using Nat.strongRecOn with
 | ind i ih=>
  intro hi h0;have hx:=dS hi;have hkm:=fun(k:Int) (hk:k∈(aN A i).kids)=>fF h hx hk
  obtain⟨l1,l2,l3,l4⟩:=h.len0 hx h0;have hbi:=fun h4=>h.bind hx h4
  have hkd:=fun(j:Nat) (hj:j<(aN A i).kids.length)=>h.kid hx hj
  have hkind:=(h.node hx).node.kind;rw[h.lst hx,h.fix hx];rw[h.len hx] at h0;generalize aN A i=x at *;have ihk:∀k:Int,k∈x.kids->d7 (aX A) k=0->c9 (aP A) k=⟨[(cS A).getD k.toNat vZ],false⟩:=fun k hk hz=>by
   have:=hkm k hk;have e:=ih k.toNat this.2 (by omega) (by rw[show ((k.toNat:Nat):Int)=k by omega];exact hz)
   rwa [show ((k.toNat:Nat):Int)=k by omega] at e
  unfold cW vR;rw[Rp (show ¬0<eU (aX A) x by omega)];by_cases k0:x.kind=0
  ·rw[Rx k0,Rx k0]
  rw[Rp k0,Rp k0,Rp l1];by_cases k3:x.kind=3
  ·rw[Rx k3,Rx k3];unfold oK;rw[GV x.kids [] fun k hk=>ihk k hk (l3 k3 k hk)];simp[Dp]
  rw[Rp k3,Rp k3];have k4:x.kind=4:=by omega
  rw[Rx k4,Rx k4];obtain⟨b1,b2,b3,b4⟩:=hbi k4;obtain⟨m1,m2⟩:=l4 k4;have e0:=hkd 0 (by omega);have e0':x.kids[0]? = some (bE x 0:Int):=e0.2;have e1:=hkd 1 (by omega);have e1':x.kids[1]? = some (bE x 1:Int):=e1.2;have hz:=ihk (bE x 0:Int) (R3 e0') m1;rw[hz] at b4;have hvl:x.values.length=1:=by rw[←b4];rfl
  have hk1:x.kids.drop 1=[(bE x 1:Int)]:=by
   apply UL;intro j;rw[SZ];rcases j with _|j
   ·rw[Ta,e1'];rfl
   ·rw[R8 (by omega),R8 (by simp)]
  rw[hk1];have hz1:=ihk (bE x 1:Int) (R3 e1') (m2 _ (by rw[hk1];simp));unfold lH;simp only[Sd,List.foldl_nil,bS,hz1,SY,Dp];simp
end
end Go.Ax
namespace Go.Ax
open Go
theorem Dk{rd:Nat->Nat->yO}{a0:Nat}{g:Int->bB}:∀(ks:List Int) (s:Pt),s.stop = -1->(∀k∈ks,∀q,(rd k.toNat q).val=g k/\(rd k.toNat q).used=0/\(rd k.toNat q).stop = -1) ->
  (bR rd a0 ks s).used=s.used/\(bR rd a0 ks s).vals=s.vals++ks.map g/\(bR rd a0 ks s).stop = -1
 | [],s,hs,_=>⟨rfl,by simp[bR],hs⟩
 | k::ks,s,hs,h=>by
  obtain⟨h1,h2,h3⟩:=h k (SL ..) (a0+s.used);simp only[bR];rw[Rx h3];obtain⟨g1,g2,g3⟩:=Dk (rd:=rd) (a0:=a0) (g:=g) ks ⟨s.used+(rd k.toNat (a0+s.used)).used,s.vals++[(rd k.toNat (a0+s.used)).val],s.spans++(a0,a0+s.used,a0+s.used+(rd k.toNat (a0+s.used)).used)::(rd k.toNat (a0+s.used)).spans,-1⟩ rfl fun q hq=>h q (SE _ hq)
  refine⟨by rw[g1];simp only;omega, ?_,g3⟩;rw[g2];simp only[h1];simp
section
variable {A:List Nd}
theorem BP(h:VT A)(p:List Int):∀f i a0,i<f->i<A.length->d7 (aX A) i=0->(a6 A p f i a0).val=CX (cS A) i/\(a6 A p f i a0).used=0/\(a6 A p f i a0).stop = -1/\(Jy (cU A) i=true->(a6 A p f i a0).spans=[])
 | 0,i,a0,hf,hi,h0=>by omega
 | f+1,i,a0,hf,hi,h0=>by
  have hx:=dS hi;have hkm:=fun(k:Int) (hk:k∈(aN A i).kids)=>fF h hx hk
  obtain⟨l1,l2,l3,l4⟩:=h.len0 hx h0;have hbi:=fun h4=>h.bind hx h4
  have hkd:=fun(j:Nat) (hj:j<(aN A i).kids.length)=>h.kid hx hj
  have hkind:=(h.node hx).node.kind;have ih:=fun(k:Nat) (a:Nat) (hk:k<i)=>BP h p f k a (by omega) (by omega)
  rw[h.fix hx,h.pln hx];rw[h.len hx] at h0;simp only[a6];generalize aN A i=x at *;have hfx:vR (aX A) (cS A) x=if x.kind=0 then x.value else if x.kind=3 then dJ x.name (x.kids.map fun k=>(cS A).getD k.toNat vZ) else if x.kind=4 then(cS A).getD (bE x 1) vZ else vZ:=by
   unfold vR;rw[Rp (by omega)]
  rw[hfx];by_cases k0:x.kind=0
  ·rw[Rx k0,Rx k0];exact⟨rfl,rfl,rfl,fun _=>rfl⟩
  rw[Rp k0,Rp k0];by_cases k3:x.kind=3
  ·rw[Rx k3,Rx k3];obtain⟨g1,g2,g3⟩:=Dk (rd:=fun k q=>a6 A p f k q) (a0:=a0) (g:=fun k=>(cS A).getD k.toNat vZ) x.kids ⟨0,[],[],-1⟩ rfl fun k hk q=>by
    have:=hkm k hk;obtain⟨e1,e2,e3,-⟩:=ih k.toNat q this.2 (by rw[show ((k.toNat:Nat):Int)=k by omega];exact l3 k3 k hk);exact⟨e1,e2,e3⟩
   simp only[Ca];rw[Rx g3,g2,g1];refine⟨rfl,rfl,g3,fun hp=>?_⟩;unfold wQ at hp;simp only[Rr,Sv,SP] at hp;have hk:x.kids=[]:=by
    rcases hp.1.2 with e|e
    ·exact absurd k3 e
    ·exact R6 e
   rw[hk];rfl
  rw[Rp k3,Rp k3];have k4:x.kind=4:=by omega
  rw[Rx k4,Rx k4];obtain⟨b1,b2,b3,b4⟩:=hbi k4;obtain⟨m1,m2⟩:=l4 k4;have e0:bE x 0<i/\x.kids[0]? = some (bE x 0:Int):=hkd 0 (by omega);have e1:bE x 1<i/\x.kids[1]? = some (bE x 1:Int):=hkd 1 (by omega);obtain⟨c1,c2,c3,c4⟩:=ih _ a0 e0.1 m1;have hl:=J5 h _ (show bE x 0<A.length by omega) m1;rw[hl] at b4;rw[Rx c3,←b4,c1];have hfd:(d9 [CX (cS A) (bE x 0)] (CX (cS A) (bE x 0))).1=0:=by simp[d9,y9]
  simp only[hfd,c2];have hz1:d7 (aX A) (bE x 1)=0:=m2 _ (by
   refine R3 (i:=0) ?_;rw[SZ];exact e1.2)
  obtain⟨d1,d2,d3,d4⟩:=ih (bE x 1) (a0+0) e1.1 hz1;refine⟨d1, ?_,d3,fun hp=>?_⟩
  ·show 0+(a6 A p f (bE x 1) (a0+0)).used=0
   rw[d2]
  ·unfold wQ at hp;simp only[Rr,S5] at hp;have q0:=hp.2 _ (R3 e0.2);have q1:=hp.2 _ (R3 e1.2);rw[Rq] at q0 q1
   show (a6 A p f (bE x 0) a0).spans++(a6 A p f (bE x 1) (a0+0)).spans=[]
   rw[c4 q0,d4 q1];rfl
theorem DE{rd:Nat->Nat->yO}{a0:Nat}{b:List Int}:∀(ks:List Int) (s:Pt),(∀k∈ks,∀q,((rd k.toNat q).used:Int)<=d7 b k)->(∀k,0<=d7 b k)->((bR rd a0 ks s).used:Int)<=s.used+fC b ks
 | [],s,_,_=>by simp[bR,fC]
 | k::ks,s,h,hb=>by
  have h1:=h k (SL ..) (a0+s.used);have hs:fC b (k::ks)=d7 b k+fC b ks:=by
   unfold fC;rw[Sd,nH];unfold fC;omega
  have h0:∀l:List Int,0<=fC b l:=by
   intro l
   induction l with
   | nil=>simp[fC]
   | cons q r ih=>
    unfold fC at ih ⊢;rw[Sd,nH];unfold fC;have:=hb q;omega
  have h2:=h0 ks;rw[hs];simp only[bR];split
  ·have:=DE (rd:=rd) (a0:=a0) (b:=b) ks ⟨s.used+(rd k.toNat (a0+s.used)).used,s.vals++[(rd k.toNat (a0+s.used)).val],s.spans++(a0,a0+s.used,a0+s.used+(rd k.toNat (a0+s.used)).used)::(rd k.toNat (a0+s.used)).spans,-1⟩ (fun q hq=>h q (SE _ hq)) hb;simp only at this;omega
  ·simp only;omega
theorem Fu(h:VT A)(p:List Int):∀f i a0,i<f->i<A.length->((a6 A p f i a0).used:Int)<=d7 (aX A) i
 | 0,i,a0,hf,hi=>by omega
 | f+1,i,a0,hf,hi=>by
  have hx:=dS hi;have hkm:=fun(k:Int) (hk:k∈(aN A i).kids)=>fF h hx hk
  have hbi:=fun h4=>h.bind hx h4
  have hkI:=fun(c:Int) (h0:0<=c) (h1:c<(aN A i).kids.length)=>h.kidI hx h0 h1
  have hkind:=(h.node hx).node.kind;have ih:=fun(k:Nat) (a:Nat) (hk:k<i)=>Fu h p f k a (by omega) (by omega)
  have ihm:=fun(k:Nat) (a:Nat) (hk:k<i)=>mH h p f k a (by omega) (by omega)
  have hsrt:=(h.node hx).srt;have hb:=fun k=>(h.lens0 k).1
  rw[h.len hx];simp only[a6];generalize aN A i=x at *;have hm0:=(gA (b:=aX A) (M:=1024) (by omega) (g6 A h.v0).1 (dX x)).1;unfold eU;by_cases k0:x.kind=0
  ·rw[Rx k0,Rx k0];exact Int.le_refl _
  rw[Rp k0,Rp k0];by_cases k3:x.kind=3
  ·rw[Rx k3,Rp (show ¬x.kind=1 by omega),Rx k3];have:=DE (rd:=fun k q=>a6 A p f k q) (a0:=a0) (b:=aX A) x.kids ⟨0,[],[],-1⟩ (fun k hk q=>by
    have:=hkm k hk;have e:=ih k.toNat q this.2
    rwa [show ((k.toNat:Nat):Int)=k by omega] at e) hb
   simp only at this
   show ((bR _ a0 x.kids ⟨0,[],[],-1⟩).used:Int)<=_
   omega
  rw[Rp k3];by_cases k4:x.kind=4
  ·obtain⟨b1,b2,b3,b4⟩:=hbi k4;rw[Rx k4,Rp (show ¬x.kind=1 by omega),Rp k3,Rp (show ¬x.kind=2 by omega)];obtain⟨c1,c2,c3⟩:=hkI 0 (by omega) (by omega);have hk:(x.kids.getD 0 0)=(bE x 0:Int):=by
    have h2:x.kids[0]? = some (bE x 0:Int):=c3;rw[Rn,h2];rfl
   rw[hk];have e1:=ih _ a0 c1;split
   ·rename_i hst;obtain⟨-,m1⟩:=ihm _ a0 c1 hst;have m1:=m1 b3;rw[b4] at m1;obtain⟨q,fq,q1,q2⟩:=iZ hsrt m1;rw[fq];simp only;obtain⟨d1,d2,d3⟩:=hkI ((q+1:Nat):Int) (by omega) (by omega);have e2:=ih _ (a0+(a6 A p f (bE x 0) a0).used) d1;have ha:(bE x ((q+1:Nat):Int):Int)∈dX x:=by
     unfold dX;rw[Rp (by omega)];rw[Rq] at d3;refine R3 (i:=q) ?_;rw[SZ,Nat.add_comm];exact d3
    have e3:=(n7 (ss:=aX A) (dX x) 0 _ ha).1;have e3:d7 (aX A) (bE x ((q+1:Nat):Int))<=cR (aX A) (dX x):=e3;omega
   ·omega
  rw[Rp k4];have hl1:∀u:Int,u<=1+cR (aX A) (dX x)->(x.kind=1->u<=1)->u<=(if x.kind=1 then 1 else if x.kind=2 then 1+cR (aX A) (dX x) else d7 (aX A) (x.kids.getD 0 0)+cR (aX A) (dX x)):=fun u h1 h2=>by
   by_cases k1:x.kind=1
   ·rw[Rx k1];exact h2 k1
   ·rw[Rp k1,Rx (by omega)];exact h1
  split
  ·exact hl1 ((0:Nat):Int) (by omega) (fun _=>by omega)
  rename_i hp;split
  ·exact hl1 ((0:Nat):Int) (by omega) (fun _=>by omega)
  rename_i hc;rw[not_or] at hc;by_cases k1:x.kind=1
  ·rw[Rx k1];exact hl1 ((1:Nat):Int) (by omega) (fun _=>by omega)
  ·rw[Rp k1];have ho:fM x=x.kids.length:=by unfold fM;rw[Rp k1]
   obtain⟨d1,d2,d3⟩:=hkI (p.getD a0 0) (by omega) (by omega);have e2:=ih _ (a0+1) d1;have ha:(bE x (p.getD a0 0):Int)∈dX x:=by unfold dX;rw[Rx (by omega)];exact d2
   have e3:=(n7 (ss:=aX A) (dX x) 0 _ ha).1;have e3:d7 (aX A) (bE x (p.getD a0 0))<=cR (aX A) (dX x):=e3;exact hl1 (((a6 A p f (bE x (p.getD a0 0)) (a0+1)).used+1:Nat):Int) (by omega) (fun e=>absurd e k1)
end
end Go.Ax
namespace Go.Ax
open Go
def c7(raw:List Int)(x:Nd)(q:Nat):Int:=if q<raw.length then max 0 (min (raw.getD q 0) (fM x-1)) else 0
structure Ft where
 cs:List Int
 val:bB
def dP(ft:Nat->Nat->Ft)(q:Nat):List Int->List Int × List bB->List Int × List bB
 | [],s=>s
 | k::ks,s=>dP ft q ks (s.1++(ft k.toNat (q+s.1.length)).cs,s.2++[(ft k.toNat (q+s.1.length)).val])
def dN(A:List Nd)(raw:List Int):Nat->Nat->Nat->Ft
 | 0,_,_=>⟨[],vZ⟩
 | f+1,i,q=>
  if (aN A i).kind=0 then⟨[],(aN A i).value⟩
  else if (aN A i).kind=3 then⟨(dP (fun k q=>dN A raw f k q) q (aN A i).kids ([],[])).1,dJ (aN A i).name (dP (fun k q=>dN A raw f k q) q (aN A i).kids ([],[])).2⟩
  else if (aN A i).kind=4 then
   ⟨(dN A raw f (bE (aN A i) 0) q).cs++(dN A raw f (bE (aN A i) ((d9 (aN A i).values (dN A raw f (bE (aN A i) 0) q).val).1+1:Nat)) (q+(dN A raw f (bE (aN A i) 0) q).cs.length)).cs,
    (dN A raw f (bE (aN A i) ((d9 (aN A i).values (dN A raw f (bE (aN A i) 0) q).val).1+1:Nat)) (q+(dN A raw f (bE (aN A i) 0) q).cs.length)).val⟩
  else if (aN A i).kind=1 then⟨[c7 raw (aN A i) q],.mk 0 ((aN A i).lo+c7 raw (aN A i) q) [] []⟩
  else⟨c7 raw (aN A i) q::(dN A raw f (bE (aN A i) (c7 raw (aN A i) q)) (q+1)).cs,(dN A raw f (bE (aN A i) (c7 raw (aN A i) q)) (q+1)).val⟩
theorem yW{raw:List Int}{x:Nd}{q:Nat}(h:1<=fM x):0<=c7 raw x q/\c7 raw x q<fM x:=by
 unfold c7;split<;>omega
theorem yP{p r:List Int}{q:Nat}{c:Int}(h:p.drop q=c::r):q<p.length/\p.getD q 0=c/\p.drop (q+1)=r:=by
 have h1:q<p.length:=by
  have:=congrArg List.length h;simp at this;omega
 rw[SH h1] at h;obtain⟨e1,e2⟩:=List.cons.inj h;refine⟨h1, ?_,e2⟩;rw[Rn,Rm h1,e1];rfl
theorem xH{p a r:List Int}{q:Nat}(h:p.drop q=a++r):p.drop (q+a.length)=r:=by
 have:=congrArg (List.drop a.length) h;rw[UM,List.drop_left] at this;exact this
theorem pA{ft:Nat->Nat->Ft}{q:Nat}:∀(ks:List Int) (s:List Int × List bB),∃m,(dP ft q ks s).1=s.1++m
 | [],s=>⟨[],by simp[dP]⟩
 | k::ks,s=>by
  obtain⟨m,hm⟩:=pA (ft:=ft) (q:=q) ks (s.1++(ft k.toNat (q+s.1.length)).cs,s.2++[(ft k.toNat (q+s.1.length)).val]);exact⟨(ft k.toNat (q+s.1.length)).cs++m,by rw[dP,hm,SC]⟩
structure As(r:yO)(f:Ft):Prop where
 val:r.val=f.val
 used:r.used=f.cs.length
 stop:r.stop = -1
theorem Kt{ft:Nat->Nat->Ft}{rd:Nat->Nat->yO}{p:List Int}{q:Nat}{post:List Int}:∀(ks:List Int) (s:List Int × List bB) (pt:Pt) (m:List Int),(∀k∈ks,∀q post,p.drop q=(ft k.toNat q).cs++post->As (rd k.toNat q) (ft k.toNat q)) ->
  pt.used=s.1.length->pt.vals=s.2->pt.stop = -1->(dP ft q ks s).1=s.1++m->p.drop (q+s.1.length)=m++post ->
  (bR rd q ks pt).used=(dP ft q ks s).1.length/\(bR rd q ks pt).vals=(dP ft q ks s).2/\(bR rd q ks pt).stop = -1
 | [],s,pt,m,_,h1,h2,h3,_,_=>⟨h1,h2,h3⟩
 | k::ks,s,pt,m,hk,h1,h2,h3,hm,hd=>by
  rw[dP] at hm;obtain⟨m',hm'⟩:=pA (ft:=ft) (q:=q) ks (s.1++(ft k.toNat (q+s.1.length)).cs,s.2++[(ft k.toNat (q+s.1.length)).val]);have e:m=(ft k.toNat (q+s.1.length)).cs++m':=by
   rw[hm',SC] at hm;exact(List.append_cancel_left hm).symm
  rw[e,SC] at hd;obtain⟨a1,a2,a3⟩:=hk k (SL ..) _ _ hd;simp only[bR,dP];rw[h1,Rx a3];refine Kt (post:=post) ks _ _ m' (fun q hq=>hk q (SE _ hq)) (by simp only;rw[a2,Ro]) (by simp only;rw[h2,a1]) rfl hm' ?_;simp only;rw[Ro,←S6];exact xH hd
section
variable {A:List Nd}
theorem VT.opt(h:VT A){i:Nat}{x:Nd}(hx:A[i]? = some x)(hk:x.kind=1∨x.kind=2):1<=fM x:=by
 have hg:=h.node hx;unfold fM;split
 ·have:=(cA hg.node.num).1;omega
 ·have:=(hg.opt.ch (by omega)).1;omega
theorem Ik(h:VT A)(raw p:List Int):∀f i q post,i<f->i<A.length->p.drop q=(dN A raw f i q).cs++post->As (a6 A p f i q) (dN A raw f i q)
 | 0,i,q,post,hf,hi,hd=>by omega
 | f+1,i,q,post,hf,hi,hd=>by
  have hx:=dS hi;have hkm:=fun(k:Int) (hk:k∈(aN A i).kids)=>fF h hx hk
  have hbi:=fun h4=>h.bind hx h4
  have hkI:=fun(c:Int) (h0:0<=c) (h1:c<(aN A i).kids.length)=>h.kidI hx h0 h1
  have hopt:=fun hk=>h.opt hx hk
  have hkind:=(h.node hx).node.kind;have hsrt:=(h.node hx).srt;have ih:=fun(k:Nat) (q:Nat) (post:List Int) (hk:k<i)=>Ik h raw p f k q post (by omega) (by omega)
  have ihm:=fun(k:Nat) (a:Nat) (hk:k<i)=>mH h p f k a (by omega) (by omega)
  simp only[a6,dN] at hd ⊢;generalize aN A i=x at *;by_cases k0:x.kind=0
  ·rw[Rx k0,Rx k0];exact⟨rfl,rfl,rfl⟩
  rw[Rp k0] at hd;rw[Rp k0,Rp k0];by_cases k3:x.kind=3
  ·rw[Rx k3] at hd;rw[Rx k3,Rx k3];obtain⟨m,hm⟩:=pA (ft:=fun k q=>dN A raw f k q) (q:=q) x.kids ([],[]);simp only at hd;obtain⟨g1,g2,g3⟩:=Kt (ft:=fun k q=>dN A raw f k q) (rd:=fun k q=>a6 A p f k q) (p:=p) (q:=q) (post:=post) x.kids ([],[]) ⟨0,[],[],-1⟩ m (fun k hk q' post' hd'=>ih k.toNat q' post' (hkm k hk).2 hd') rfl rfl rfl hm (by
    rw[hm] at hd;simpa using hd)
   simp only[Ca];exact⟨by simp only;rw[Rx g3,g2],g1,g3⟩
  rw[Rp k3] at hd;rw[Rp k3,Rp k3];by_cases k4:x.kind=4
  ·rw[Rx k4] at hd;rw[Rx k4,Rx k4];obtain⟨b1,b2,b3,b4⟩:=hbi k4;obtain⟨c1,c2,c3⟩:=hkI 0 (by omega) (by omega);simp only[SC] at hd;obtain⟨a1,a2,a3⟩:=ih _ q _ c1 hd;obtain⟨-,m1⟩:=ihm _ q c1 a3;have m1:=m1 b3;rw[b4] at m1;obtain⟨w,fq,q1,q2⟩:=iZ hsrt m1;have hd2:=xH hd;rw[Rx a3];rw[←a1,fq] at hd2 ⊢;rw[a2];simp only at hd2 ⊢;obtain⟨d1,d2,d3⟩:=hkI ((w+1:Nat):Int) (by omega) (by omega);obtain⟨e1,e2,e3⟩:=ih _ _ _ d1 hd2;exact⟨e1,by simp only;rw[e2,Ro],e3⟩
  rw[Rp k4] at hd;rw[Rp k4,Rp k4];have hb:=yW (raw:=raw) (q:=q) (hopt (by omega));generalize c7 raw x q=c at *;by_cases k1:x.kind=1
  ·rw[Rx k1] at hd;obtain⟨p1,p2,p3⟩:=yP hd;rw[Rp (show ¬p.length<=q by omega),p2,Rp (show ¬(c<0∨fM x<=c) by omega),Rx k1,Rx k1];exact⟨rfl,rfl,rfl⟩
  ·rw[Rp k1] at hd;obtain⟨p1,p2,p3⟩:=yP hd;rw[Rp (show ¬p.length<=q by omega),p2,Rp (show ¬(c<0∨fM x<=c) by omega),Rp k1,Rp k1];have ho:fM x=x.kids.length:=by unfold fM;rw[Rp k1]
   obtain⟨d1,d2,d3⟩:=hkI c (by omega) (by omega);obtain⟨e1,e2,e3⟩:=ih _ _ _ d1 p3;exact⟨e1,by simp only;rw[e2,Sa],e3⟩
theorem HN(h:VT A)(raw:List Int){f i q:Nat}(hf:i<f)(hi:i<A.length):As (a6 A (List.replicate q 0++(dN A raw f i q).cs) f i q) (dN A raw f i q):=
 Ik h raw _ f i q [] hf hi (by rw[Sh,Tq (by simp)];simp)
theorem Ig(h:VT A)(raw:List Int){f i q:Nat}(hf:i<f)(hi:i<A.length):((dN A raw f i q).cs.length:Int)<=d7 (aX A) i:=by
 rw[←(HN h raw (q:=q) hf hi).used];exact Fu h _ f i q hf hi
theorem OW(h:VT A)(raw:List Int){f i q:Nat}(hf:i<f)(hi:i<A.length):iA (dN A raw f i q).val/\((c9 (aP A) i).many=false->(dN A raw f i q).val∈(c9 (aP A) i).vals):=by
 have ha:=HN h raw (q:=q) hf hi;rw[←ha.val];exact mH h _ f i q hf hi ha.stop
theorem MT(h:VT A)(raw:List Int){f i q:Nat}(hf:i<f)(hi:i<A.length)(h0:d7 (aX A) i=0):(dN A raw f i q).cs=[]/\(dN A raw f i q).val=CX (cS A) i:=by
 have ha:=HN h raw (q:=q) hf hi;have hl:=Ig h raw (q:=q) hf hi;refine⟨R6 (by omega), ?_⟩;rw[←ha.val];exact(BP h _ f i q hf hi h0).1
theorem LN{ft:Nat->Nat->Ft}{rd:Nat->Nat->yO}{raw p:List Int}{q:Nat}:∀(ks:List Int) (s:List Int × List bB) (pt:Pt) (r:List Int) (m:Nat),(∀k∈ks,∀q post,p.drop q=(ft k.toNat q).cs++post->As (rd k.toNat q) (ft k.toNat q)) ->
  (∀k∈ks,∀q m,m<(ft k.toNat q).cs.length->p.drop q=(ft k.toNat q).cs.take m->∃n,n<A.length/\(rd k.toNat q).stop=(n:Int)/\(ft k.toNat q).cs[m]? = some (c7 raw (aN A n) (q+m))) ->
  pt.used=s.1.length->(dP ft q ks s).1=s.1++r->m<r.length->p.drop (q+s.1.length)=r.take m->∃n,n<A.length/\(bR rd q ks pt).stop=(n:Int)/\r[m]? = some (c7 raw (aN A n) (q+s.1.length+m))
 | [],s,pt,r,m,_,_,_,hr,hm,_=>by
  rw[dP] at hr;have:r=[]:=by
   have:=congrArg List.length hr;rw[Ro] at this;exact R6 (by omega)
  subst this;simp at hm
 | k::ks,s,pt,r,m,hka,hkb,hu,hr,hm,hd=>by
  rw[dP] at hr;obtain⟨r',hr'⟩:=pA (ft:=ft) (q:=q) ks (s.1++(ft k.toNat (q+s.1.length)).cs,s.2++[(ft k.toNat (q+s.1.length)).val]);have e:r=(ft k.toNat (q+s.1.length)).cs++r':=by
   rw[hr',SC] at hr;exact(List.append_cancel_left hr).symm
  have hka0:=hka k (SL ..) (q+s.1.length);have hkb0:=hkb k (SL ..) (q+s.1.length);have hrec:=fun(pt':Pt) (m':Nat)=>LN (ft:=ft) (rd:=rd) (raw:=raw) (p:=p) (q:=q) ks (s.1++(ft k.toNat (q+s.1.length)).cs,s.2++[(ft k.toNat (q+s.1.length)).val]) pt' r' m' (fun q hq=>hka q (SE _ hq)) (fun q hq=>hkb q (SE _ hq))
  subst e;simp only[bR];rw[hu];generalize ft k.toNat (q+s.1.length)=F at *;generalize rd k.toNat (q+s.1.length)=R at *;by_cases hc:m<F.cs.length
  ·rw[Tr (by omega)] at hd;obtain⟨n,n1,n2,n3⟩:=hkb0 m hc hd;rw[Rp (by rw[n2];omega)];exact⟨n,n1,n2,by rw[SG hc];exact n3⟩
  ·obtain⟨m',rfl⟩:∃m',m=F.cs.length+m':=⟨m-F.cs.length,by omega⟩
   rw[Ua] at hd;obtain⟨a1,a2,a3⟩:=hka0 _ hd;rw[Rx a3];have hd2:=xH hd;rw[Ro] at hm;obtain⟨n,n1,n2,n3⟩:=hrec ⟨s.1.length+R.used,pt.vals++[R.val],pt.spans++(q,q+s.1.length,q+s.1.length+R.used)::R.spans,-1⟩ m' (by simp only;rw[a2,Ro]) hr' (by omega) (by
    simp only;rw[Ro,←S6];exact hd2)
   refine⟨n,n1,n2, ?_⟩;rw[SK (by omega),UH,n3];simp only[Ro];congr 2;omega
theorem N2(h:VT A)(raw p:List Int):∀f i q m,i<f->i<A.length->m<(dN A raw f i q).cs.length->p.drop q=(dN A raw f i q).cs.take m->∃n,n<A.length/\(a6 A p f i q).stop=(n:Int)/\(dN A raw f i q).cs[m]? = some (c7 raw (aN A n) (q+m))
 | 0,i,q,m,hf,hi,hm,hd=>by omega
 | f+1,i,q,m,hf,hi,hm,hd=>by
  have hx:=dS hi;have hkm:=fun(k:Int) (hk:k∈(aN A i).kids)=>fF h hx hk
  have hbi:=fun h4=>h.bind hx h4
  have hkI:=fun(c:Int) (h0:0<=c) (h1:c<(aN A i).kids.length)=>h.kidI hx h0 h1
  have hopt:=fun hk=>h.opt hx hk
  have hkind:=(h.node hx).node.kind;have hsrt:=(h.node hx).srt;have ih:=fun(k:Nat) (q:Nat) (post:List Int) (hk:k<i)=>Ik h raw p f k q post (by omega) (by omega)
  have ihb:=fun(k:Nat) (q:Nat) (m:Nat) (hk:k<i)=>N2 h raw p f k q m (by omega) (by omega)
  have ihm:=fun(k:Nat) (a:Nat) (hk:k<i)=>mH h p f k a (by omega) (by omega)
  have hnode:∀y,aN A i=y->aN A i=y:=fun y e=>e
  simp only[a6,dN] at hm hd ⊢;generalize hxe:aN A i=x at *;by_cases k0:x.kind=0
  ·rw[Rx k0] at hm;simp at hm
  rw[Rp k0] at hm hd ⊢;rw[Rp k0];by_cases k3:x.kind=3
  ·rw[Rx k3] at hm hd ⊢;rw[Rx k3];obtain⟨r,hr⟩:=pA (ft:=fun k q=>dN A raw f k q) (q:=q) x.kids ([],[]);rw[SY] at hr;simp only at hm hd ⊢;obtain⟨n,n1,n2,n3⟩:=LN (A:=A) (ft:=fun k q=>dN A raw f k q) (rd:=fun k q=>a6 A p f k q) (raw:=raw) (p:=p) (q:=q) x.kids ([],[]) ⟨0,[],[],-1⟩ r m (fun k hk q' post' hd'=>ih k.toNat q' post' (hkm k hk).2 hd') (fun k hk q' m' hm' hd'=>ihb k.toNat q' m' (hkm k hk).2 hm' hd') rfl (by rw[hr];rfl) (by rw[←hr];exact hm) (by rw[←hr];exact hd);exact⟨n,n1,n2,by rw[hr];exact n3⟩
  rw[Rp k3] at hm hd ⊢;rw[Rp k3];by_cases k4:x.kind=4
  ·rw[Rx k4] at hm hd ⊢;rw[Rx k4];obtain⟨b1,b2,b3,b4⟩:=hbi k4;obtain⟨c1,c2,c3⟩:=hkI 0 (by omega) (by omega);simp only at hm hd ⊢;by_cases hc:m<(dN A raw f (bE x 0) q).cs.length
   ·rw[Tr (by omega)] at hd;obtain⟨n,n1,n2,n3⟩:=ihb _ q m c1 hc hd;rw[Rp (by rw[n2];omega)];exact⟨n,n1,n2,by rw[SG hc];exact n3⟩
   ·obtain⟨m',rfl⟩:∃m',m=(dN A raw f (bE x 0) q).cs.length+m':=⟨m-(dN A raw f (bE x 0) q).cs.length,by omega⟩
    rw[Ua] at hd;rw[Ro] at hm;obtain⟨a1,a2,a3⟩:=ih _ q _ c1 hd;obtain⟨-,m1⟩:=ihm _ q c1 a3;have m1:=m1 b3;rw[b4] at m1;obtain⟨w,fq,q1,q2⟩:=iZ hsrt m1;have hd2:=xH hd;rw[Rx a3];rw[SK (by omega),UH];rw[a2];rw[←a1,fq] at hd2 hm ⊢;simp only at hd2 hm ⊢;obtain⟨d1,d2,d3⟩:=hkI ((w+1:Nat):Int) (by omega) (by omega);obtain⟨n,n1,n2,n3⟩:=ihb _ _ m' d1 (by omega) hd2;exact⟨n,n1,n2,by rw[n3,S6]⟩
  rw[Rp k4] at hm hd ⊢;rw[Rp k4];have hb:=yW (raw:=raw) (q:=q) (hopt (by omega));by_cases k1:x.kind=1
  ·rw[Rx k1] at hm hd ⊢;have hm0:m=0:=by simp at hm;omega
   subst hm0;have hl:p.length<=q:=by
    have:=congrArg List.length hd;simp at this;omega
   rw[Rx hl];exact⟨i,hi,rfl,by rw[hxe,Rx k1];rfl⟩
  ·rw[Rp k1] at hm hd ⊢;rcases SN m with hm0|hm0
   ·subst hm0;have hl:p.length<=q:=by
     have:=congrArg List.length hd;simp at this;omega
    rw[Rx hl];exact⟨i,hi,rfl,by rw[hxe,Rp k1];rfl⟩
   ·obtain⟨m',rfl⟩:∃m',m=m'+1:=⟨m-1,by omega⟩
    rw[List.take_succ_cons] at hd;simp only[Sa] at hm;obtain⟨p1,p2,p3⟩:=yP hd;generalize c7 raw x q=c at *;rw[Rp (show ¬p.length<=q by omega),p2,Rp (show ¬(c<0∨fM x<=c) by omega),Rp k1];have ho:fM x=x.kids.length:=by unfold fM;rw[Rp k1]
    obtain⟨d1,d2,d3⟩:=hkI c (by omega) (by omega);obtain⟨n,n1,n2,n3⟩:=ihb _ _ m' d1 (by omega) p3;exact⟨n,n1,n2,by
     simp only[List.getElem?_cons_succ];rw[n3];congr 2;omega⟩
end
end Go.Ax
namespace Go.Ax
open Go
def gN(x:Nd):Nat:=if x.kind=3 then max 3 x.kids.length else 3
def HP(A:List Nd):Nat->Nat
 | 0=>1
 | n+1=>HP A n*gN (aN A (n+1))
theorem Ny(x:Nd):3<=gN x:=by unfold gN;split<;>omega
theorem D4(A:List Nd):∀n,1<=HP A n
 | 0=>R2 _
 | n+1=>by
  have h1:=D4 A n;have h2:=Ny (aN A (n+1));rw[HP];exact Si (by omega) (TE h1 h2)
theorem Ir(A:List Nd)(n:Nat):3*HP A n<=HP A (n+1):=by
 rw[HP,T2];exact Nat.mul_le_mul_left _ (Ny _)
theorem uI(A:List Nd){k:Nat}:∀{n:Nat},k<=n->HP A k<=HP A n
 | 0,h=>by rw[show k=0 by omega];exact R2 _
 | n+1,h=>by
  rcases R9 k (n+1) with h'|h'
  ·have:=uI A (k:=k) (n:=n) (by omega);have:=Ir A n;omega
  ·rw[show k=n+1 by omega];exact R2 _
theorem Cp{rd:Nat->Nat->yO}{a0 M:Nat}(hM:3<=M):∀(ks:List Int) (s:Pt),(∀k∈ks,∀q,2*(rd k.toNat q).spans.length+3<=M)->2*(bR rd a0 ks s).spans.length<=2*s.spans.length+ks.length*(M-1)
 | [],s,_=>by simp[bR]
 | k::ks,s,h=>by
  have h1:=h k (SL ..) (a0+s.used);have e:(k::ks).length*(M-1)=ks.length*(M-1)+(M-1):=by rw[Sa,Nat.succ_mul]
  rw[e];simp only[bR];generalize hR:rd k.toNat (a0+s.used)=R at *;split
  ·have:=Cp (rd:=rd) (a0:=a0) hM ks ⟨s.used+R.used,s.vals++[R.val],s.spans++(a0,a0+s.used,a0+s.used+R.used)::R.spans,-1⟩ fun q hq=>h q (SE _ hq)
   simp only[Ro,Sa] at this;omega
  ·simp only[Ro,Sa];have:=TC (ks.length*(M-1));omega
theorem Ck{A:List Nd}(h:VT A)(p:List Int):∀f i a0,i<f->i<A.length->2*(a6 A p f i a0).spans.length+3<=3*HP A i
 | 0,i,a0,hf,hi=>by omega
 | f+1,i,a0,hf,hi=>by
  have hx:=dS hi;have hkm:=fun(k:Int) (hk:k∈(aN A i).kids)=>fF h hx hk
  have hbi:=fun h4=>h.bind hx h4
  have hkI:=fun(c:Int) (h0:0<=c) (h1:c<(aN A i).kids.length)=>h.kidI hx h0 h1
  have hkind:=(h.node hx).node.kind;have hsrt:=(h.node hx).srt;have ih:=fun(k:Nat) (a:Nat) (hk:k<i)=>Ck h p f k a (by omega) (by omega)
  have ihm:=fun(k:Nat) (a:Nat) (hk:k<i)=>mH h p f k a (by omega) (by omega)
  have hp1:=D4 A i;have hgi:∀j,i=j+1->HP A i=HP A j*gN (aN A i):=fun j e=>by rw[e,HP]
  have h0:∀r:yO,r.spans=[]->2*r.spans.length+3<=3*HP A i:=fun r e=>by rw[e];simp;omega
  simp only[a6];generalize aN A i=x at *;by_cases k0:x.kind=0
  ·rw[Rx k0];exact h0 _ rfl
  rw[Rp k0];by_cases k3:x.kind=3
  ·rw[Rx k3]
   show 2*(bR (fun k q=>a6 A p f k q) a0 x.kids ⟨0,[],[],-1⟩).spans.length+3<=3*HP A i
   rcases SN i with e|e
   ·have hk:x.kids=[]:=by
     cases hkk:x.kids with
     | nil=>rfl
     | cons k ks=>have:=hkm k (by rw[hkk];simp);omega
    rw[hk];simp only[bR,Sw];omega
   ·obtain⟨j,rfl⟩:∃j,i=j+1:=⟨i-1,by omega⟩
    have hj:=D4 A j;have hc:=Cp (rd:=fun k q=>a6 A p f k q) (a0:=a0) (M:=3*HP A j) (by omega) x.kids ⟨0,[],[],-1⟩ fun k hk q=>by
     have:=hkm k hk;have e1:=ih k.toNat q this.2;have e2:=uI A (k:=k.toNat) (n:=j) (by omega);omega
    simp only[Sw] at hc;rw[hgi j rfl];have hg:gN x=max 3 x.kids.length:=by unfold gN;rw[Rx k3]
    rw[hg];generalize x.kids.length=n at hc ⊢;generalize HP A j=H at hc hj ⊢;rcases R9 n 3 with hn|hn
    ·rw[Nat.max_eq_left (by omega)];have:n*(3*H-1)<=2*(3*H-1):=SM _ (by omega);omega
    ·rw[Nat.max_eq_right hn];have e1:n*(3*H-1)+n=n*(3*H):=by
      rw[←Nat.mul_succ];congr 1;omega
     have e2:3*(H*n)=n*(3*H):=by rw[T2 n,Nat.mul_assoc]
     omega
  rw[Rp k3];by_cases k4:x.kind=4
  ·rw[Rx k4];obtain⟨b1,b2,b3,b4⟩:=hbi k4;obtain⟨c1,c2,c3⟩:=hkI 0 (by omega) (by omega);have e1:=ih _ a0 c1;obtain⟨j,rfl⟩:∃j,i=j+1:=⟨i-1,by omega⟩
   have hs:=Ir A j;have hj:=D4 A j;have m1':=uI A (k:=bE x 0) (n:=j) (by omega);split
   ·rename_i hst;obtain⟨-,m1⟩:=ihm _ a0 c1 hst;have m1:=m1 b3;rw[b4] at m1;obtain⟨q,fq,q1,q2⟩:=iZ hsrt m1;rw[fq];simp only[Ro];obtain⟨d1,d2,d3⟩:=hkI ((q+1:Nat):Int) (by omega) (by omega);have e2:=ih _ (a0+(a6 A p f (bE x 0) a0).used) d1;have m2':=uI A (k:=bE x ((q+1:Nat):Int)) (n:=j) (by omega);omega
   ·omega
  rw[Rp k4];split
  ·exact h0 _ rfl
  split
  ·exact h0 _ rfl
  rename_i hc;rw[not_or] at hc;split
  ·exact h0 _ rfl
  ·rename_i k1;have ho:fM x=x.kids.length:=by unfold fM;rw[Rp k1]
   obtain⟨d1,d2,d3⟩:=hkI (p.getD a0 0) (by omega) (by omega);have e1:=ih _ (a0+1) d1;have m1':=uI A (k:=bE x (p.getD a0 0)) (n:=i) (by omega);simp only;omega
def iJ:List Int->List Int->Int
 | [],[]=>0
 | [],_::_=>-1
 | _::_,[]=>1
 | a::asz,b::bs=>andThen (jZ a b) (iJ asz bs)
def dE(a b:List Int):Int:=andThen (jZ (a.length:Int) (b.length:Int)) (iJ a b)
theorem DW:∀a:List Int,Ji iJ a
 | []=>by
  constructor
  ·simp[iJ]
  ·intro b;cases b<;>simp[iJ]
  ·intro b c;cases b<;>cases c<;>simp[iJ]
  ·intro b c;cases b<;>cases c<;>simp[iJ]
 | a::asz=>by
  have i1:=iE a;have i2:=DW asz;constructor
  ·simp[iJ,i1.refl,i2.refl,andThen]
  ·intro b;cases b with
   | nil=>simp[iJ]
   | cons b bs=>simp only[iJ];exact iY (i1.anti _) (i2.anti _)
  ·intro b c;cases b with
   | nil=>cases c<;>simp[iJ]
   | cons b bs=>
    cases c with
    | nil=>simp[iJ]
    | cons c cs=>simp only[iJ];exact kH (i1.trans _ _) (i1.strict _ _) (i2.trans _ _)
  ·intro b c;cases b with
   | nil=>cases c<;>simp[iJ]
   | cons b bs=>
    cases c with
    | nil=>simp[iJ]
    | cons c cs=>simp only[iJ];exact lT (i1.trans _ _) (i1.strict _ _) (i2.trans _ _) (i2.strict _ _)
theorem kE(a:List Int):Ji dE a:=by
 have i1:=iE (a.length:Int);have i2:=DW a;constructor
 ·simp[dE,i1.refl,i2.refl,andThen]
 ·intro b;simp only[dE];exact iY (i1.anti _) (i2.anti _)
 ·intro b c;simp only[dE];exact kH (i1.trans _ _) (i1.strict _ _) (i2.trans _ _)
 ·intro b c;simp only[dE];exact lT (i1.trans _ _) (i1.strict _ _) (i2.trans _ _) (i2.strict _ _)
theorem J0:∀(a b:List Int),iJ a b=0->a=b
 | [],[],_=>rfl
 | [],_::_,h=>by simp[iJ] at h
 | _::_,[],h=>by simp[iJ] at h
 | a::l,b::m,h=>by
  simp only[iJ,andThen] at h;split at h
  ·rename_i h1;rw[Decidable.byContradiction fun e=>qY e h1,J0 l m h]
  ·rename_i h1;exact absurd h h1
theorem HC(a b:List Int)(h:dE a b=0):a=b:=by
 simp only[dE,andThen] at h;split at h
 ·exact J0 a b h
 ·rename_i h1;exact absurd h h1
def lJ:List (List Int)->List Int->Nat × Bool
 | [],_=>(0,false)
 | a::r,v=>if 0<=dE a v then(0,dE a v == 0) else((lJ r v).1+1,(lJ r v).2)
def uN(l:List (List Int))(k:Nat)(v:List Int):Bool:=
 match l[k]? with
 | some a=>dE a v == 0
 | none=>false
theorem Bl:∀{l:List (List Int)} {v:List Int} {k:Nat},k<=l.length->(∀p a,p<k->l[p]? = some a->dE a v<0)->(∀a,l[k]? = some a->0<=dE a v)->lJ l v=(k,uN l k v)
 | [],v,k,hk,h1,h2=>by
  have:k=0:=by simpa using hk
  subst this;simp[lJ,uN]
 | a::r,v,0,hk,h1,h2=>by
  have:=h2 a (by simp);simp[lJ,this,uN]
 | a::r,v,k+1,hk,h1,h2=>by
  have h0:=h1 0 a (by omega) (by simp);have ih:=Bl (l:=r) (v:=v) (k:=k) (by simpa using hk) (fun p b hp hb=>h1 (p+1) b (by omega) (by simpa using hb)) (fun b hb=>h2 b (by simpa using hb));rw[lJ,Rp (by omega),ih];simp[uN]
theorem E8:∀(l:List (List Int)) (v:List Int),(lJ l v).1<=l.length
 | [],v=>by simp[lJ]
 | a::r,v=>by
  simp only[lJ];split
  ·simp
  ·have:=E8 r v;simp;omega
def pB(out:List (List Int))(v:List Int):List (List Int):=if (lJ out v).2 then out else out.take (lJ out v).1++v::out.drop (lJ out v).1
def eH(l:List (List Int)):List (List Int):=l.foldl pB []
theorem nU(l:List (List Int))(v:List Int):eH (l++[v])=pB (eH l) v:=by simp[eH]
theorem GW{out:List (List Int)}{v x:List Int}(h:x∈pB out v):x=v∨x∈out:=by
 unfold pB at h;split at h
 ·exact .inr h
 ·rcases R5.1 h with h|h
  ·exact .inr (Se h)
  ·rcases Rz.1 h with h|h
   ·exact .inl h
   ·exact .inr (Sq h)
theorem Fw(out:List (List Int))(v:List Int):(pB out v).length<=out.length+1:=by
 unfold pB;split
 ·omega
 ·simp only[Ro,Sa,SX,Tj];have:=E8 out v;omega
theorem wT:∀l:List (List Int),(eH l).length<=l.length:=by
 intro l;rw[←TQ l];generalize l.reverse=r
 induction r with
 | nil=>simp[eH]
 | cons a r ih=>
  rw[Td,nU];have:=Fw (eH r.reverse) a;simp only[Ro,SQ];omega
theorem Dn{l:List (List Int)}{x:List Int}:x∈eH l->x∈l:=by
 rw[←TQ l];generalize l.reverse=r
 induction r with
 | nil=>simp[eH]
 | cons a r ih=>
  rw[Td,nU];intro h;rcases GW h with rfl|h
  ·simp
  ·exact SU _ (ih h)
theorem Gx{a b c:List Int}(h1:dE a b<0)(h2:dE b c<=0):dE a c<0:=by
 have g:=kE a;have t:=g.trans b c (by omega) h2;rcases UE t with h|h
 ·exact h
 ·have:=(g.strict b c (by omega) h2 h).1;omega
theorem OH{a b c:List Int}(h1:dE a b<=0)(h2:dE b c<0):dE a c<0:=by
 have g:=kE a;have t:=g.trans b c h1 (by omega);rcases UE t with h|h
 ·exact h
 ·have:=(g.strict b c h1 (by omega) h).2;omega
theorem FY{a b:List Int}(h:0<dE a b):dE b a<0:=by rw[(kE a).anti b];omega
theorem Bm{a b:List Int}(h:0<=dE a b):dE b a<=0:=by rw[(kE a).anti b];omega
theorem J8{a b:List Int}(h:dE a b<0):0<dE b a:=by rw[(kE a).anti b];omega
def wP(l:List (List Int)):Prop:=l.Pairwise fun a b=>dE a b<0
theorem Co(a:List Int)(r:List (List Int))(v:List Int):pB (a::r) v=if 0<=dE a v then(if dE a v == 0 then a::r else v::a::r) else a::pB r v:=by
 unfold pB;by_cases h:0<=dE a v
 ·simp only[lJ,Rx h];rfl
 ·simp only[lJ,Rp h];split<;>simp_all
theorem GL:∀{l:List (List Int)} {v:List Int},wP l->wP (pB l v)
 | [],v,_=>by simp[pB,lJ,wP]
 | a::r,v,h=>by
  unfold wP at h ⊢;rw[SV] at h;rw[Co];split
  ·rename_i h0;split
   ·exact SV.2 h
   ·rename_i h1;have h1:dE a v≠0:=by simpa using h1
    have hva:=FY (show 0<dE a v by omega);refine SV.2 ⟨fun b hb=>?_,SV.2 h⟩;rcases Rz.1 hb with rfl|hb
    ·exact hva
    ·exact Gx hva (by have:=h.1 b hb;omega)
  ·rename_i h0;refine SV.2 ⟨fun b hb=>?_,GL (l:=r) h.2⟩;rcases GW hb with rfl|hb
   ·omega
   ·exact h.1 b hb
theorem JC:∀l:List (List Int),wP (eH l):=by
 intro l;rw[←TQ l];generalize l.reverse=r
 induction r with
 | nil=>simp[eH,wP]
 | cons a r ih=>rw[Td,nU];exact GL ih
theorem wP.get{l:List (List Int)}(h:wP l){i j:Nat}{a b:List Int}(hij:i<j)(ha:l[i]? = some a)(hb:l[j]? = some b):dE a b<0:=by
 obtain⟨hi,rfl⟩:=Rt.1 ha;obtain⟨hj,rfl⟩:=Rt.1 hb;exact Ub.1 h i j hi hj hij
theorem Am(a:List Int):¬dE a a<0:=by rw[(kE a).refl];omega
theorem GY:∀{a b:List (List Int)},wP a->wP b->(∀x,x∈a↔x∈b)->a=b
 | [],[],_,_,_=>rfl
 | [],y::m,_,_,h=>by have:=(h y).2 (by simp);simp at this
 | x::l,[],_,_,h=>by have:=(h x).1 (by simp);simp at this
 | x::l,y::m,h1,h2,h=>by
  unfold wP at h1 h2;rw[SV] at h1 h2;have e:x=y:=by
   rcases Rz.1 ((h x).1 (by simp)) with e|e
   ·exact e
   ·rcases Rz.1 ((h y).2 (by simp)) with e'|e'
    ·exact e'.symm
    ·have a1:=h2.1 x e;have a2:=h1.1 y e';have:=Gx a1 (by omega:dE x y<=0);exact absurd this (Am y)
  subst e;congr 1;refine GY h1.2 h2.2 fun z=>?_
  constructor
  ·intro hz;rcases Rz.1 ((h z).1 (by simp[hz])) with e|e
   ·subst e;exact absurd (h1.1 z hz) (Am z)
   ·exact e
  ·intro hz;rcases Rz.1 ((h z).2 (by simp[hz])) with e|e
   ·subst e;exact absurd (h2.1 z hz) (Am z)
   ·exact e
theorem Fe:∀(l:List (List Int)) (v x:List Int),x∈pB l v↔x=v∨x∈l
 | [],v,x=>by simp[pB,lJ]
 | a::r,v,x=>by
  rw[Co];split
  ·split
   ·rename_i h;have e:=HC a v (by simpa using h);subst e;constructor
    ·intro h;exact .inr h
    ·rintro(rfl|h)
     ·simp
     ·exact h
   ·simp
  ·simp only[Rz,Fe r v x];constructor
   ·rintro(h|h|h)
    ·exact .inr (.inl h)
    ·exact .inl h
    ·exact .inr (.inr h)
   ·rintro(h|h|h)
    ·exact .inr (.inl h)
    ·exact .inl h
    ·exact .inr (.inr h)
theorem Jq(l:List (List Int))(x:List Int):x∈eH l↔x∈l:=by
 refine d6 (P:=fun l=>x∈eH l↔x∈l) (by simp[eH]) (fun l a ih=>?_) l;rw[nU,Fe,ih];simp only[R5,TP];constructor
 ·rintro(h|h)
  ·exact .inr h
  ·exact .inl h
 ·rintro(h|h)
  ·exact .inr h
  ·exact .inl h
theorem DH(a:List Int):dE a a=0:=(kE a).refl
theorem Jg(l:List (List Int))(x:List Int):x∈eH l↔x∈l:=Jq l x
def rH(l:List (List Int)):Nat->Bool
 | 0=>true
 | i+1=>match l[i+1]?,l[i]? with
  | some b,some a=>!(dE b a == 0)
  | _,_=>true
def lR(l:List (List Int)):Nat->List (List Int)
 | 0=>[]
 | i+1=>match l[i]? with
  | some v=>if rH l i=true then lR l i++[v] else lR l i
  | none=>lR l i
theorem Bz{l:List (List Int)}:∀i,i<=l.length->(∀j,j<i->rH l j=true)->lR l i=l.take i
 | 0,_,_=>by simp[lR]
 | i+1,h,hk=>by
  unfold lR;rw[Rm (by omega)];simp only;rw[Rx (hk i (by omega)),Bz i (by omega) (fun j hj=>hk j (by omega)),Rv (by omega)]
def OJ(l:List (List Int)):Prop:=∀(i j:Nat) (x y:List Int),i<j->l[i]? = some x->l[j]? = some y->¬dE y x<0
theorem Hw{l:List (List Int)}(h:OJ l):∀i,i<=l.length->wP (lR l i)/\(∀x,x∈lR l i↔x∈l.take i)
 | 0,_=>⟨by simp[lR,wP],by simp[lR]⟩
 | i+1,hi=>by
  obtain⟨s1,s2⟩:=Hw h i (by omega);have hg:l[i]? = some l[i]:=Rm (by omega);have ht:l.take (i+1)=l.take i++[l[i]]:=Rv (by omega);unfold lR;rw[hg];simp only;by_cases hk:rH l i=true
  ·rw[Rx hk];refine⟨?_,fun x=>by rw[ht,R5,R5,s2]⟩;unfold wP;refine List.pairwise_append.2 ⟨s1,by simp,fun a ha b hb=>?_⟩;have hb:b=l[i]:=by simpa using hb
   subst hb;have ha2:=(s2 a).1 ha;obtain⟨k,hkk,rfl⟩:=UX ha2;have hki:k<i:=by simp at hkk;omega
   rw[List.getElem_take];cases i with
   | zero=>omega
   | succ i=>
    simp only[rH] at hk;rw[hg,Rm (show i<l.length by omega)] at hk;have hne:dE l[i+1] l[i]≠0:=by simpa using hk
    have h1:=h i (i+1) _ _ (by omega) (Rm (by omega)) hg;have h2:dE l[i] l[i+1]<0:=FY (by omega);rcases R9 k i with e|e
    ·have h3:=h k i _ _ e (Rm (by omega)) (Rm (by omega));exact OH (Bm (by omega)) h2
    ·have:k=i:=by omega
     subst this;exact h2
  ·rw[Rp hk];refine⟨s1,fun x=>?_⟩;rw[s2,ht,R5];refine⟨fun hx=>.inl hx,fun hx=>?_⟩;rcases hx with hx|hx
   ·exact hx
   ·have hx:x=l[i]:=by simpa using hx
    cases i with
    | zero=>exact absurd rfl hk
    | succ i=>
     simp only[rH] at hk;rw[hg,Rm (show i<l.length by omega)] at hk;have he:dE l[i+1] l[i]=0:=by simpa using hk
     rw[hx,HC _ _ he];exact List.mem_iff_getElem.2 ⟨i,by simp;omega,by rw[List.getElem_take]⟩
theorem I5{l m:List (List Int)}(hp:m.Perm l)(h:OJ m):lR m m.length=eH l:=by
 obtain⟨h1,h2⟩:=Hw h m.length (R2 _);refine GY h1 (JC l) fun x=>?_
 rw[h2,SD,Jg];exact hp.mem_iff
theorem JY(l:List (List Int)):(∀x∈l,¬dE x x<0)/\(∀x∈l,∀y∈l,∀z∈l,dE x y<0->dE y z<0->dE x z<0)/\(∀x∈l,∀y∈l,∀z∈l,¬dE x y<0->¬dE y z<0->¬dE x z<0):=by
 refine⟨fun x _=>by rw[DH];omega,fun x _ y _ z _ h1 h2=>Gx h1 (by omega),fun x _ y _ z _ h1 h2 h3=>?_⟩;have a:=Bm (show 0<=dE x y by omega);have b:=Bm (show 0<=dE y z by omega);have c:=(kE z).trans y x b a;have:=J8 h3;omega
def jK(p:List Int)(b e:Nat):List Int:=p.take b++p.drop e
def CV(p:List Int)(s:Sp):List (List Int):=jK p s.2.1 s.2.2::(if 0<s.1/\0<p.getD (s.1-1) 0 then [jK (p.set (s.1-1) (p.getD (s.1-1) 0-1)) s.2.1 s.2.2] else [])
def dL(p:List Int)(sp:List Sp):List (List Int):=sp.flatMap (CV p)
def BF(p:List Int)(i:Nat):List (List Int):=if 0<p.getD i 0 then [p.set i 0,p.set i ((p.getD i 0).tdiv 2),p.set i (p.getD i 0-1)] else []
def nT(p:List Int)(i:Nat):List (List Int):=if i<p.length then BF p i++nT p (i+1) else []
 termination_by p.length-i
def LP(p:List Int)(x y:Sp):List Int:=p.take x.2.1++(p.drop y.2.1).take (y.2.2-y.2.1)++(p.drop x.2.1).take (x.2.2-x.2.1)++p.drop y.2.2
def gH(p:List Int)(x y:Sp):List (List Int):=if x.1=y.1/\x.2.2=y.2.1 then [LP p x y] else []
def dY(p:List Int):List Sp->List (List Int)
 | []=>[]
 | x::r=>r.flatMap (gH p x)++dY p r
def sL(p:List Int)(i j:Nat):List (List Int):=if p.getD i 0<p.getD j 0 then [p.set j (p.getD i 0)] else []
def Er(p:List Int)(i j:Nat):List (List Int):=if j<p.length/\j<=i+16 then sL p i j++Er p i (j+1) else []
 termination_by p.length-j
def mD(p:List Int)(i:Nat):List (List Int):=if i<p.length then Er p i (i+1)++mD p (i+1) else []
 termination_by p.length-i
theorem L5{p:List Int}{s b e:Nat}{v:Int}(h0:0<s)(h1:s<=b)(h2:b<=e)(h3:e<=p.length):p.take (s-1)++([v]++((p.drop s).take (b-s)++p.drop e))=jK (p.set (s-1) v) b e:=by
 unfold jK;rw[List.drop_set_of_lt (by omega),←SC,←SC];congr 1;apply UL;intro j;rw[ST,TA];by_cases hj:j<s-1
 ·rw[SC,SG (by simp;omega),ST,Rx hj,Rx (by omega),Rp (by omega)]
 by_cases he:j=s-1
 ·subst he;rw[SC,SK (by simp;omega),Rx (by omega),Rx rfl,Rx (by omega)];simp[show min (s-1) p.length=s-1 by omega]
 rw[SK (by simp;omega),ST,SZ];simp only[Ro,SX,Sa,Sw];rw[show min (s-1) p.length=s-1 by omega];by_cases hb:j<b
 ·rw[Rx (by omega),Rx hb,Rp (by omega),show s+(j-(s-1+(0+1)))=j by omega]
 ·rw[Rp (by omega),Rp hb]
theorem rT{α β:Type}(f:α->List β)(c:Nat):∀l:List α,(∀x∈l,(f x).length<=c)->(l.flatMap f).length<=l.length*c
 | [],_=>by simp
 | x::l,h=>by
  have h1:=h x (SL ..);have h2:=rT f c l fun y hy=>h y (SE _ hy)
  rw[Tn,Ro,Sa,Nat.succ_mul];omega
theorem LG(p:List Int)(s:Sp):(CV p s).length<=2:=by unfold CV;split<;>simp
theorem I8(p:List Int)(sp:List Sp):(dL p sp).length<=2*sp.length:=by
 have:=rT (CV p) 2 sp fun s _=>LG p s
 unfold dL;omega
theorem IG(p:List Int):∀n i,p.length-i=n->(nT p i).length<=3*n
 | 0,i,h=>by rw[nT,Rp (by omega)];simp
 | n+1,i,h=>by
  have:=IG p n (i+1) (by omega);have h2:(BF p i).length<=3:=by unfold BF;split<;>simp
  rw[nT,Rx (by omega),Ro];omega
theorem JD(p:List Int)(x y:Sp):(gH p x y).length<=1:=by unfold gH;split<;>simp
theorem DC(p:List Int):∀l:List Sp,2*(dY p l).length<=l.length*(l.length-1)
 | []=>by simp[dY]
 | x::r=>by
  have h1:=DC p r;have h2:=rT (gH p x) 1 r fun y _=>JD p x y
  rw[dY,Ro,Sa,Nat.add_sub_cancel];have e:(r.length+1)*r.length=r.length*(r.length-1)+2*r.length:=by
   cases h:r.length with
   | zero=>rfl
   | succ n=>
    rw[Nat.add_sub_cancel,Sf,T2 (n+1) n,Sf];have:(n+1)*(n+1)=n*(n+1)+(n+1):=Nat.succ_mul n (n+1);omega
  omega
theorem Ii(p:List Int)(i:Nat):∀n j,i+17-j=n->(Er p i j).length<=n
 | 0,j,h=>by rw[Er,Rp (by omega)];simp
 | n+1,j,h=>by
  have:=Ii p i n (j+1) (by omega);have h2:(sL p i j).length<=1:=by unfold sL;split<;>simp
  rw[Er];split
  ·rw[Ro];omega
  ·simp
theorem Hv(p:List Int):∀n i,p.length-i=n->(mD p i).length<=16*n
 | 0,i,h=>by rw[mD,Rp (by omega)];simp
 | n+1,i,h=>by
  have:=Hv p n (i+1) (by omega);have h2:=Ii p i 16 (i+1) (by omega);rw[mD,Rx (by omega),Ro];omega
def cO(which:Nat)(sp:List Sp)(p:List Int):List (List Int):=
 match which with
 | 0=>dL p sp
 | 1=>nT p 0
 | 2=>dY p sp
 | 3=>mD p 0
 | _=>dL p sp++(nT p 0++(dY p sp++mD p 0))
def fV(A:List Nd)(r:List Int):List Int:=(dN A r A.length (A.length-1) 0).cs
def cC(A:List Nd)(p:List Int)(raws:List (List Int)):List (List Int):=(raws.map (fV A)).filter fun q=>decide (dE q p<0)
theorem lC(A:List Nd)(p:List Int)(a b:List (List Int)):cC A p (a++b)=cC A p a++cC A p b:=by simp[cC]
theorem g7(A:List Nd)(p:List Int)(a:List (List Int)):(cC A p a).length<=a.length:=by
 unfold cC;exact Si (List.length_filter_le _ _) (by simp)
theorem o9{A:List Nd}(h:VT A)(r:List Int):(fV A r).length<=1024:=by
 have h1:=Ig h r (f:=A.length) (i:=A.length-1) (q:=0) (by have:=h.pos;omega) (by have:=h.pos;omega);have h2:=(h.lens0 ((A.length-1:Nat):Int)).2;unfold fV;omega
theorem wJ{A:List Nd}(h:VT A)(p:List Int)(a:List (List Int)):∀q∈cC A p a,q.length<=1024:=fun q hq=>by
 unfold cC at hq;obtain⟨hq,-⟩:=SO.1 hq;obtain⟨r,-,rfl⟩:=SJ.1 hq;exact o9 h r
theorem KI{which n:Nat}{sp:List Sp}{p:List Int}(hn:sp.length<=n)(hn2:n<=3200000)(hp:p.length<=1024):(cO which sp p).length<=5120030000000:=by
 have h1:=I8 p sp;have h2:=IG p _ 0 rfl;have h3:=DC p sp;have h4:=Hv p _ 0 rfl;have h5:sp.length*(sp.length-1)<=3200000*3200000:=TE (by omega) (by omega);unfold cO;split<;>(try simp only[Ro])<;>omega
end Go.Ax
namespace Go.Ax
open Go
section
variable {rd:Nat->Nat->yO} {a0:Nat}
def Ix(rd:Nat->Nat->yO)(a0:Nat)(k:Int)(s:Pt):Pt:=⟨s.used+(rd k.toNat (a0+s.used)).used,s.vals++[(rd k.toNat (a0+s.used)).val],s.spans++(a0,a0+s.used,a0+s.used+(rd k.toNat (a0+s.used)).used)::(rd k.toNat (a0+s.used)).spans,(rd k.toNat (a0+s.used)).stop⟩
theorem kD(k:Int)(ks:List Int)(s:Pt):bR rd a0 (k::ks) s=if (rd k.toNat (a0+s.used)).stop = -1 then bR rd a0 ks (Ix rd a0 k s) else Ix rd a0 k s:=by
 rw[bR];by_cases h:(rd k.toNat (a0+s.used)).stop = -1
 ·rw[Rx h,Rx h];unfold Ix;rw[h]
 ·rw[Rp h,Rp h];rfl
theorem q6(m:List Int):∀(l:List Int) (s:Pt),s.stop = -1->(bR rd a0 l s).stop = -1->bR rd a0 (l++m) s=bR rd a0 m (bR rd a0 l s)
 | [],s,_,_=>rfl
 | k::l,s,h,h2=>by
  rw[kD] at h2;rw[Sr,kD,kD];by_cases hk:(rd k.toNat (a0+s.used)).stop = -1
  ·rw[Rx hk] at h2;rw[Rx hk,Rx hk];exact q6 m l _ hk h2
  ·rw[Rp hk] at h2;exact absurd h2 hk
theorem BT:∀(ks:List Int) (s:Pt),∃X,(bR rd a0 ks s).spans=s.spans++X
 | [],s=>⟨[],by simp[bR]⟩
 | k::ks,s=>by
  rw[kD];split
  ·obtain⟨X,hX⟩:=BT ks (Ix rd a0 k s);refine⟨(a0,a0+s.used,a0+s.used+(rd k.toNat (a0+s.used)).used)::(rd k.toNat (a0+s.used)).spans++X, ?_⟩;rw[hX];unfold Ix;rw[SC]
  ·exact⟨_,rfl⟩
theorem mI{ks:List Int}{j:Nat}{s:Pt}(hj:j<ks.length)(h0:s.stop = -1)(h:(bR rd a0 (ks.take j) s).stop = -1) :
  bR rd a0 (ks.take (j+1)) s=Ix rd a0 ks[j] (bR rd a0 (ks.take j) s):=by
 rw[Rv hj,q6 _ _ _ h0 h,kD];split
 ·rfl
 ·rfl
theorem qR{ks:List Int}{j:Nat}{s:Pt}(hj:j<ks.length)(h0:s.stop = -1)(h:(bR rd a0 (ks.take j) s).stop = -1)(hk:(bR rd a0 (ks.take (j+1)) s).stop≠-1) :
  bR rd a0 ks s=bR rd a0 (ks.take (j+1)) s:=by
 have e:ks=ks.take j++ks[j]::ks.drop (j+1):=by simp
 have h2:=mI (rd:=rd) (a0:=a0) hj h0 h;rw[h2] at hk ⊢
 conv=>lhs;rw[e]
 rw[q6 _ _ _ h0 h,kD,Rp (show ¬(rd ks[j].toNat (a0+(bR rd a0 (ks.take j) s).used)).stop = -1 from hk)]
theorem Gz{ks:List Int}{j:Nat}{s:Pt}(h0:s.stop = -1)(h:(bR rd a0 (ks.take j) s).stop = -1):∃X,(bR rd a0 ks s).spans=(bR rd a0 (ks.take j) s).spans++X:=by
 have e:ks=ks.take j++ks.drop j:=by simp
 obtain⟨X,hX⟩:=BT (rd:=rd) (a0:=a0) (ks.drop j) (bR rd a0 (ks.take j) s);exact⟨X,by rw[←hX,←q6 _ _ _ h0 h,←e]⟩
theorem wH{ks:List Int}{j:Nat}{s:Pt}(hj:j<ks.length)(h0:s.stop = -1)(h:(bR rd a0 (ks.take j) s).stop = -1) :
  (bR rd a0 (ks.take j) s).spans.length+1+(rd ks[j].toNat (a0+(bR rd a0 (ks.take j) s).used)).spans.length<=(bR rd a0 ks s).spans.length:=by
 have h2:=mI (rd:=rd) (a0:=a0) hj h0 h;have h3:∃X,(bR rd a0 ks s).spans=(bR rd a0 (ks.take (j+1)) s).spans++X:=by
  by_cases hk:(bR rd a0 (ks.take (j+1)) s).stop = -1
  ·exact Gz h0 hk
  ·exact⟨[],by rw[qR hj h0 h hk,Sh]⟩
 obtain⟨X,hX⟩:=h3;rw[hX,h2];unfold Ix;simp only[Ro,Sa];omega
end
end Go.Ax
namespace Go.Ax
open Go
section
variable {ft:Nat->Nat->Ft} {q:Nat}
theorem zH(m:List Int):∀(l:List Int) (s:List Int × List bB),dP ft q (l++m) s=dP ft q m (dP ft q l s)
 | [],s=>rfl
 | k::l,s=>by rw[Sr,dP,dP];exact zH m l _
theorem wE{ks:List Int}{j:Nat}(hj:j<ks.length)(s:List Int × List bB) :
  dP ft q (ks.take (j+1)) s=((dP ft q (ks.take j) s).1++(ft ks[j].toNat (q+(dP ft q (ks.take j) s).1.length)).cs,(dP ft q (ks.take j) s).2++[(ft ks[j].toNat (q+(dP ft q (ks.take j) s).1.length)).val]):=by
 rw[Rv hj,zH];rfl
theorem Dd{ks:List Int}{j:Nat}(hj:j<ks.length)(s:List Int × List bB) :
  (dP ft q (ks.take j) s).1.length+(ft ks[j].toNat (q+(dP ft q (ks.take j) s).1.length)).cs.length<=(dP ft q ks s).1.length:=by
 have e:ks=ks.take (j+1)++ks.drop (j+1):=by simp
 have h2:=wE (ft:=ft) (q:=q) hj s;obtain⟨m,hm⟩:=pA (ft:=ft) (q:=q) (ks.drop (j+1)) (dP ft q (ks.take (j+1)) s);have h3:dP ft q ks s=dP ft q (ks.drop (j+1)) (dP ft q (ks.take (j+1)) s):=by
  rw[←zH,←e]
 rw[h3,hm,h2];simp only[Ro];omega
end
theorem HU{raw:List Int}{x:Nd}{q:Nat}(h:1<=fM x)(hq:q<raw.length):min (max (raw.getD q 0) 0) (fM x-1)=c7 raw x q:=by
 unfold c7;rw[Rx hq];omega
theorem FD{raw:List Int}{x:Nd}{q:Nat}(hq:¬q<raw.length):c7 raw x q=0:=by
 unfold c7;rw[Rp hq]
end Go.Ax
namespace Go.Ax
open Go
def oO(σ:List (Nat × Nat))(ns nx n':Nat):List (Nat × Nat)->Bool
 | []=>true
 | (i,id)::r=>(match Nat.blt i ns with
   | true=>match lk σ id with
    | some j=>Nat.beq j i
    | none=>false
   | false=>Nat.ble nx id && Nat.blt id n') && oO σ ns nx n' r
def jX(ids:List Nat)(nx:Nat):aS->Bool
 | []=>true
 | (k,_)::r=>(match Nat.ble nx k with
   | true=>true
   | false=>zO k ids) && jX ids nx r
theorem oP{σ:List (Nat × Nat)}{ns nx n':Nat}:∀{τ:List (Nat × Nat)},oO σ ns nx n' τ=true->∀p∈τ,(p.1<ns/\lk σ p.2=some p.1)∨(ns<=p.1/\nx<=p.2/\p.2<n')
 | [],_,p,hp=>by cases hp
 | (i,id)::r,h,p,hp=>by
  simp only[oO,Rr] at h;rcases Rz.1 hp with rfl|hp
  ·have h1:=h.1;split at h1
   ·rename_i hb;split at h1
    ·rename_i j hj;exact .inl ⟨Ry hb,by rw[hj,Rw h1]⟩
    ·cases h1
   ·rename_i hb;simp only[Rr] at h1;refine .inr ⟨?_,Ry h1.1,Ry h1.2⟩;rcases R9 i ns with hl|hl
    ·have e:Nat.blt i ns=true:=Ru hl;rw[e] at hb;cases hb
    ·exact hl
  ·exact oP h.2 p hp
theorem qD:∀{m:aS} {ids:List Nat} {nx:Nat},jX ids nx m=true->∀p∈m,nx<=p.1∨zO p.1 ids=true
 | [],ids,nx,_,p,hp=>by cases hp
 | (k,b)::r,ids,nx,h,p,hp=>by
  simp only[jX,Rr] at h;rcases Rz.1 hp with rfl|hp
  ·have h1:=h.1;split at h1
   ·rename_i hb;exact .inl (Ry hb)
   ·exact .inr h1
  ·exact qD h.2 p hp
theorem aM.useN{P:Program}{Γ:List (Nat × AV)}{F:FuncId}{args args':List AV}{ms mem m1:aS}{ns nx:Nat}{Qs K:AV->aS->Nat->Prop}(hΓ:∀p∈Γ,NN p.2)(σ:List (Nat × Nat))(h:aM P Γ F args' ms ns Qs)
  (hp:jE (fN σ) mem=m1) (hargs:iL m1 σ args args') (hM:cH m1 σ ms) (hc:(iK ms && (jG σ && oD ns σ))=true)
  (hk:∀r m n,Qs r m n->∃τ r' m' n',Cv m τ r r'/\cH m τ m'/\(iK m' && (jG τ && (Nat.ble nx n' && (jX (fN σ) nx m' && oO σ ns nx n' τ))))=true/\K r' (m'++eT (fN σ) mem) n'):aM P Γ F args mem nx K:=by
 simp only[Rr] at hc;obtain⟨hc1,hc2,hc4⟩:=hc;refine⟨fun X D ρ w vs hD hm hv=>?_⟩;refine(aM.use (K:=K) (nx:=nx) hΓ h σ (m1:=m1) (rest:=eT (fN σ) mem) ⟨fun p hp'=>?_,fun p hp'=>(cK.1 hp').1,fun p hp'=>?_,fun p h1 q h2=>?_, ?_⟩ ?_ hargs hM.cvm (dH hc1) (kW hc2) (fun id i hl=>kV hc4 _ (bI hl)) ?_).run X D ρ w vs hD hm hv
 ·rw[←hp] at hp';exact(dO.1 hp').1
 ·cases hi:zO p.1 (fN σ) with
  | true=>left;rw[←hp];exact dO.2 ⟨hp',hi⟩
  | false=>right;exact cK.2 ⟨hp',hi⟩
 ·rw[←hp] at h1;have a:=(dO.1 h1).2;have b:=(cK.1 h2).2;intro e;rw[e,b] at a;cases a
 ·rw[←hp];exact hm.nod.sublist ((kN mem).map _)
 ·exact hm.nod.sublist ((kI mem).map _)
 ·intro r m n hq hn;obtain⟨τ,r',m',n',h1,h2,h3,h4⟩:=hk r m n hq;simp only[Rr] at h3;refine⟨τ,r',m',n',Ry h3.2.2.1,h1,h2.cvm,dH h3.1,kW h3.2.1,fun i id hl=>oP h3.2.2.2.2 _ (bI hl),fun p h5 q h6=>?_,h4⟩;have b:=(cK.1 h6).2;rcases qD h3.2.2.2.1 p h5 with a|a
  ·have:=hD _ (hm.low q (cK.1 h6).1);omega
  ·intro e;rw[e,b] at a;cases a
theorem aM.ph{P:Program}{Γ:List (Nat × AV)}{F:FuncId}{args:List AV}{mem:aS}{nx:Nat}{K:AV->aS->Nat->Prop}(t:TypeId)(sz:Nat)(h:aM P Γ F args ((nx,.row t sz [])::mem) (nx+1) K):aM P Γ F args mem nx K:=by
 refine⟨fun X D ρ w vs hD hm hv=>?_⟩;obtain⟨m1,v1,e1⟩:=hm.phantom (n:=nx) (D':=dn D nx (nx+1)) (fun h'=>Tb _ (hD _ h')) (fun i hi=>.inl hi) (.inr ⟨R2 _,TH _⟩) t sz;refine(h.run X _ _ w vs (fun i hi=>?_) m1 ⟨hv.1,fun j c x hc hx=>v1 _ _ (hv.2 j c x hc hx)⟩).mono ?_
 ·rcases hi with hi|hi
  ·have:=hD i hi;omega
  ·exact hi.2
 ·rintro e w' ⟨r,v,m,n,ρ',rfl,hk,hn,hm',hr,ext⟩;have ed:dn (dn D nx (nx+1)) (nx+1) n=dn D nx n:=by
   funext i
   apply propext;constructor
   ·rintro((hi|⟨h1,h2⟩)|⟨h1,h2⟩)
    ·exact .inl hi
    ·exact .inr ⟨h1,by omega⟩
    ·exact .inr ⟨by omega,h2⟩
   ·rintro(hi|⟨h1,h2⟩)
    ·exact .inl (.inl hi)
    ·rcases R9 i (nx+1) with h3|h3
     ·exact .inl (.inr ⟨h1,h3⟩)
     ·exact .inr ⟨h3,h2⟩
  rw[ed] at hm' hr ext;refine⟨r,v,m,n,ρ',rfl,hk,by omega,hm',hr, ?_⟩;have e2:=e1 D fun i hi=>hi
  exact e2.trans ⟨fun i hi=>ext.le i (.inl hi),fun i hi=>ext.agree i (.inl hi),ext.size,ext.keep,ext.fresh,ext.env⟩
end Go.Ax
namespace Go.Ax
open Go
section
variable {P:Program} {Γ:List (Nat × AV)} {B:Nat}
theorem KO{b:Bool}{c1 c2:Code}{s1 s2:St}{i:Nat}{y:Code}{Q:Exit->St->Prop}{α:Type}(hΓ:∀p∈Γ,NN p.2)(R:α->Prop)(J:α->St)
  (h1:∀Qr:Exit->St->Prop,(∀(a:α) (s:St) (σ:List (Nat × Nat)),R a->Conv B σ s (J a)->Qr .normal s)->MB b (eA P Γ B c1 s1 (AT i Qr)) (eA P Γ B c2 s2 (AT i Qr)))
  (h2:∀a,R a->eA P Γ B y (J a) Q):MB b (eA P Γ B c1 s1 (AT i (HV P Γ B y Q))) (eA P Γ B c2 s2 (AT i (HV P Γ B y Q))):=by
 have h:=h1 (fun e s=>match e with
  | .normal=>∃a σ,R a/\Conv B σ s (J a)
  | e=>Q e s) (fun a s σ hr hc=>⟨a,σ,hr,hc⟩)
 have key:∀(e:Exit) (s:St),AT i (fun e s=>match e with
  | .normal=>∃a σ,R a/\Conv B σ s (J a)
  | e=>Q e s) e s->AT i (HV P Γ B y Q) e s:=by
  intro e s hq;have norm:(∃a σ,R a/\Conv B σ s (J a))->eA P Γ B y s Q:=fun⟨a,σ,hr,hc⟩=>eA.conv hΓ hc (h2 a hr)
  cases e with
  | normal=>exact norm hq
  | exit j=>
   simp only[AT] at hq ⊢;split at hq
   ·exact norm hq
   ·exact hq
  | goto l=>exact hq
  | ret=>exact hq
  | panic c=>exact hq
  | outgrown=>exact hq
 cases b with
 | true=>exact eA.mono (show eA P Γ B c1 s1 _ from h) key
 | false=>exact eA.mono (show eA P Γ B c2 s2 _ from h) key
end
end Go.Ax
namespace Go.Ax
open Go
inductive gU where
 | ret
 | pan (x:Value)
 | recd (x:Value)
def gU.mode:gU->FrameMode
 | .ret=>.returning
 | .pan x=>.panicking [pe x]
 | .recd x=>.panicking [{ v:=x,recovered:=true }]
def I4:List Value->Option (List AV)
 | []=>some []
 | .int k n::r=>match I4 r with
  | some l=>some (.int k n::l)
  | none=>none
 | .bool b::r=>match I4 r with
  | some l=>some (.bool b::l)
  | none=>none
 | _=>none
def RZ:Value->Option AV
 | .iface t (.agg arr)=>match I4 arr.toList with
  | some l=>some (.ifc t (.agg l))
  | none=>none
 | _=>none
theorem BK{ρ:Nat->dC}{D:Nat->Prop}{O:Nat->Prop}{w:World}:∀{xs:List Value} {l:List AV},I4 xs=some l->Gs ρ D O w l xs
 | [],l,h=>by simp only[I4] at h;cases h;exact⟨.nil,by simp⟩
 | x::r,l,h=>by
  cases x<;>simp only[I4] at h<;>first|(cases h;done)|skip
  all_goals
   split at h
   ·rename_i l' hl;cases h;obtain⟨h1,h2⟩:=BK (ρ:=ρ) (D:=D) (O:=O) (w:=w) hl;refine⟨.cons ?_ h1,fun y hy=>?_⟩
    ·first|exact .int _ _|exact .bool _
    ·rcases Rz.1 hy with rfl|hy
     ·rfl
     ·exact h2 y hy
   ·cases h
theorem I1{ρ:Nat->dC}{D:Nat->Prop}{O:Nat->Prop}{w:World}{x:Value}{v:AV}(h:RZ x=some v):VR ρ D O w v x:=by
 unfold RZ at h;split at h
 ·rename_i t arr;split at h
  ·rename_i l hl;cases h;obtain⟨h1,h2⟩:=BK (ρ:=ρ) (D:=D) (O:=O) (w:=w) hl;exact .ifc t _ _ (.agg l arr (by have:=h1.1;simpa using this) (fun y hy=>h2 y (by simpa using hy)) fun j c y hj hy=>h1.2 j c y hj (by simpa using hy))
  ·cases h
 ·cases h
structure qZ(P:Program)(Γ:List (Nat × AV))(B:Nat)(c:Code)(s:St)(m:gU)(Q:Exit->St->gU->Prop):Prop where
 run:∀(X:Nat->Prop) (ds:List Deferred) (D:Nat->Prop) (ρ:Nat->dC) (a:Act) (w:World) (c₀:Frame) (cs:List Frame),(∀i,D i->i<B)->SR Γ X (ds,0) ρ (dn D B s.nx) s a w->B<=s.nx->c₀.mode=m.mode ->
  c.wpS P (fun e a' cs' w'=>∃(s':St) (m':gU) (ρ':Nat->dC),Q e s' m'/\cs'={ c₀ with mode:=m'.mode }::cs/\B<=s'.nx/\SR Γ X (ds,0) ρ' (dn D B s'.nx) s' a' w'/\Ext D ρ s.mem w ρ' (dn D B s'.nx) s'.mem w') a (c₀::cs) w
section
variable {P:Program} {Γ:List (Nat × AV)} {B:Nat} {s:St} {m:gU} {Q:Exit->St->gU->Prop}
theorem qG{c₀:Frame}{u:FrameMode}(h:c₀.mode=u):{ c₀ with mode:=u }=c₀:=by subst h;rfl
theorem qZ.of{c:Code}(hc:gG c=false)(h:eA P Γ B c s fun e s'=>Q e s' m):qZ P Γ B c s m Q:=by
 refine⟨fun X ds D ρ a w c₀ cs hD hs hB hm=>wpS_of_wp (Go.wp_mono (D2.1 (h.run none X (ds,0) D ρ a w hD hs hB (.no hc))) ?_)⟩;rintro e a' w' ⟨s',ρ',hq,hB',hs',hext⟩;exact⟨s',m,ρ',hq,by rw[qG hm],hB',hs',hext⟩
def Ql(P:Program)(Γ:List (Nat × AV))(B:Nat)(y:Code)(Q:Exit->St->gU->Prop)(e:Exit)(s:St)(m:gU):Prop:=
 match e with
 | .normal=>qZ P Γ B y s m Q
 | e=>Q e s m
theorem xZ{c:Code}{Q Q':Exit->Act->List Frame->World->Prop}{a:Act}{cs:List Frame}{w:World}(h:c.wpS P Q a cs w)(hq:∀e a cs w,Q e a cs w->Q' e a cs w):c.wpS P Q' a cs w:=
 fun b k hb hr=>let ⟨e,a',cs',w',q,r⟩:=h b k hb hr;⟨e,a',cs',w',hq _ _ _ _ q,r⟩
theorem qZ.seq{x y:Code}(h:qZ P Γ B x s m (Ql P Γ B y Q)):qZ P Γ B (.seq x y) s m Q:=by
 refine⟨fun X ds D ρ a w c₀ cs hD hs hB hm=>wpS_seq (xZ (h.run X ds D ρ a w c₀ cs hD hs hB hm) ?_)⟩;rintro e a' cs' w' ⟨s',m',ρ',hq,rfl,hB',hs',hext⟩;cases e with
 | normal=>
  refine xZ ((show qZ P Γ B y s' m' Q from hq).run X ds D ρ' a' w' { c₀ with mode:=m'.mode } cs hD hs' hB' rfl) ?_;rintro e a2 cs2 w2 ⟨s2,m2,ρ2,h1,rfl,h2,h3,h4⟩;exact⟨s2,m2,ρ2,h1,rfl,h2,h3,hext.trans h4⟩
 | exit i=>exact⟨s',m',ρ',hq,rfl,hB',hs',hext⟩
 | goto l=>exact⟨s',m',ρ',hq,rfl,hB',hs',hext⟩
 | ret=>exact⟨s',m',ρ',hq,rfl,hB',hs',hext⟩
 | panic c=>exact⟨s',m',ρ',hq,rfl,hB',hs',hext⟩
 | outgrown=>exact⟨s',m',ρ',hq,rfl,hB',hs',hext⟩
theorem qZ.cond{c:Operand}{x y:Code}{b:Bool}(hc:ev Γ s c=some (.bool b))(h:MB b (qZ P Γ B x s m Q) (qZ P Γ B y s m Q)):qZ P Γ B (.cond c x y) s m Q:=by
 refine⟨fun X ds D ρ a w c₀ cs hD hs hB hm=>?_⟩;have hv:=aY hs hc;generalize he:a.eval c=cv at hv;cases hv;cases b with
 | true=>exact wpS_cond he ((show qZ P Γ B x s m Q from h).run X ds D ρ a w c₀ cs hD hs hB hm)
 | false=>exact wpS_cond he ((show qZ P Γ B y s m Q from h).run X ds D ρ a w c₀ cs hD hs hB hm)
def Lz(op:Op):Bool:=
 match op with
 | .call c=>match c.callee with
  | .builtin .recover=>true
  | _=>false
 | _=>false
def Pu:gU->Option (AV × gU)
 | .ret=>some (.nif,.ret)
 | .pan x=>match RZ x with
  | some v=>some (v,.recd x)
  | none=>none
 | .recd x=>some (.nif,.recd x)
def B1(P:Program)(Γ:List (Nat × AV))(ops:List Oper):List Oper->St->gU->(St->gU->Prop)->Prop
 | [],s,m,K=>K s m
 | o::r,s,m,K=>match lL ops s o.guard with
  | none=>False
  | some false=>match eI s o.dst (.tup []) s.mem s.nx with
   | some s'=>B1 P Γ ops r s' m K
   | none=>False
  | some true=>match Lz o.op with
   | true=>match Pu m with
    | some (v,m')=>match eI s o.dst v s.mem s.nx with
     | some s'=>B1 P Γ ops r s' m' K
     | none=>False
    | none=>False
   | false=>match cT P Γ s o.op with
    | some (v,mem,nx)=>match eI s o.dst v mem nx with
     | some s'=>B1 P Γ ops r s' m K
     | none=>False
    | none=>False
theorem Jo{o:Oper}(h:Lz o.op=true)(ρ:Operand->Value)(w:World):(execOp ρ o).run P w = .ok .recover w:=by
 unfold Lz at h;split at h
 ·rename_i c hop;split at h
  ·rename_i hc;simp[execOp,hop,resolve,hc,invoke,builtin]
  ·cases h
 ·cases h
theorem GT(ops:Array Oper):∀(l:List Nat) (s:St) (m:gU) (K:St->gU->Prop),B1 P Γ ops.toList (l.filterMap fun i=>ops[i]?) s m K ->
  ∀(X:Nat->Prop) (ds:List Deferred) (D:Nat->Prop) (ρ:Nat->dC) (a:Act) (w:World) (c₀:Frame) (cs:List Frame) (Q:Exit->Act->List Frame->World->Prop),(∀i,D i->i<B)->SR Γ X (ds,0) ρ (dn D B s.nx) s a w->B<=s.nx->c₀.mode=m.mode ->
   (∀(s':St) (m':gU) (ρ':Nat->dC) (a':Act) (w':World),K s' m'->B<=s'.nx->SR Γ X (ds,0) ρ' (dn D B s'.nx) s' a' w'->Ext D ρ s.mem w ρ' (dn D B s'.nx) s'.mem w'->Q .normal a' ({ c₀ with mode:=m'.mode }::cs) w') ->
   wpOpsS P ops Q l a (c₀::cs) w:=by
 intro l
 induction l with
 | nil=>
  intro s m K h X ds D ρ a w c₀ cs Q hD hs hB hm hQ;have:=hQ s m ρ a w h hB hs (Ext.refl fun i hi=>.inl hi);rw[qG hm] at this;exact this
 | cons i r ih=>
  intro s m K h X ds D ρ a w c₀ cs Q hD hs hB hm hQ;simp only[wpOpsS];cases ho:ops[i]? with
  | none=>
   simp only[UY,ho] at h;exact ih s m K h X ds D ρ a w c₀ cs Q hD hs hB hm hQ
  | some o=>
   simp only[UY,ho] at h;simp only[B1] at h;split at h
   ·exact h.elim
   ·rename_i hw;have hw':=gS hs hw;rw[Tw] at hw';simp only[hw',TX,if_false];split at h
    ·rename_i s' hst;obtain⟨h1,h2,h3⟩:=f8 hst hs hs.mr sG (fun h=>h) (fun _ _ h=>h);refine ih s' m K h X ds D ρ _ w c₀ cs Q hD (by rw[h3];exact h1) (by omega) hm fun s2 m2 ρ2 a2 w2 k1 k2 k3 k4=>hQ s2 m2 ρ2 a2 w2 k1 k2 k3 (by rw[←h2];exact k4)
    ·exact h.elim
   ·rename_i hw;have hw':=gS hs hw;rw[Tw] at hw';simp only[hw',if_true];split at h
    ·rename_i hrec;rw[Jo hrec];split at h
     ·rename_i v m' hv;split at h
      ·rename_i s' hst;have main:∀(x:Value) (c1:Frame),(VR ρ (dn D B s.nx) (OX X ρ s.mem) w v x)->c1={ c₀ with mode:=m'.mode }->wpOpsS P ops Q r (a.put o.dst x) (c1::cs) w:=by
        intro x c1 hx hc1;obtain⟨h1,h2,h3⟩:=f8 hst hs hs.mr hx (fun h=>h) (fun _ _ h=>h);subst hc1;exact ih s' m' K h X ds D ρ _ w { c₀ with mode:=m'.mode } cs Q hD (by rw[h3];exact h1) (by omega) rfl fun s2 m2 ρ2 a2 w2 k1 k2 k3 k4=>hQ s2 m2 ρ2 a2 w2 k1 k2 k3 (by rw[←h2];exact k4)
       cases m with
       | ret=>
        cases hv;simp only[recoverD,hm,gU.mode];exact main _ c₀ .nif (qG hm).symm
       | pan x=>
        simp only[Pu] at hv;split at hv
        ·rename_i u hu;cases hv;simp only[recoverD,hm,gU.mode,pe];exact main _ _ (I1 hu) rfl
        ·cases hv
       | recd x=>
        cases hv;simp only[recoverD,hm,gU.mode];exact main _ c₀ .nif (qG hm).symm
      ·exact h.elim
     ·exact h.elim
    ·split at h
     ·rename_i v mem nx hstep;split at h
      ·rename_i s' hst;have hnx:s.nx<=nx:=by rcases wN hstep with h'|h'<;>omega
       obtain⟨x,n,w',ρ',e1,e2,m1,v1,mono1,ext1⟩:=mO (P:=P) (D:=dn D B s.nx) (D':=dn D B nx) (fun h'=>Tb _ (rQ hD hB _ h')) (uG hnx) hs o (fun e=>.inr ⟨hB,by omega⟩) hstep;obtain⟨h1,h2,h3⟩:=f8 hst hs m1 v1 (ext1 _ fun i hi=>hi).mks mono1;have fin:wpOpsS P ops Q r (a.put o.dst x) (c₀::cs) w':=ih s' m K h X ds D ρ' _ w' c₀ cs Q hD (by rw[h3];exact h1) (by rw[h3];exact Si hB hnx) hm fun s2 m2 ρ2 a2 w2 k1 k2 k3 k4=>hQ s2 m2 ρ2 a2 w2 k1 k2 k3 ((ext1 D fun i hi=>.inl hi).trans (by rw[←h2];exact k4))
       rw[e1];rcases e2 with rfl|⟨rfl,rfl⟩
       ·exact fin
       ·exact fin
      ·exact h.elim
     ·exact h.elim
theorem C3(L:List Oper):∀(l:List Oper) (k:Nat),(∀j,L[k+j]? = l[j]?)->((List.range' k l.length).filterMap fun i=>L[i]?)=l
 | [],k,h=>rfl
 | o::r,k,h=>by
  have h0:L[k]? = some o:=by simpa using h 0
  rw[Sa,List.range'_succ,UY,h0];simp only;rw[C3 L r (k+1) fun j=>by have:=h (j+1);simpa[S6,Nat.add_comm 1 j] using this]
theorem qZ.region{id:Nat}{ops:Array Oper}(h:B1 P Γ ops.toList ops.toList s m fun s' m'=>Q .normal s' m'):qZ P Γ B (.region id ops false) s m Q:=by
 refine⟨fun X ds D ρ a w c₀ cs hD hs hB hm=>wpS_region ?_⟩;have e:((List.range ops.size).filterMap fun i=>ops[i]?)=ops.toList:=by
  have:=C3 ops.toList ops.toList 0 (fun j=>by rw[SF]);rw[List.range_eq_range',←UW];simpa using this
 exact GT ops (List.range ops.size) s m _ (by rw[e];exact h) X ds D ρ a w c₀ cs _ hD hs hB hm fun s' m' ρ' a' w' h1 h2 h3 h4=>⟨s',m',ρ',h1,rfl,h2,h3,h4⟩
def Gu(P:Program)(Γ:List (Nat × AV))(H:Hk):Code->St->gU->(St->gU->Prop)->Prop
 | .skip,s,m,K=>K s m
 | .seq x y,s,m,K=>Gu P Γ H x s m fun s' m'=>Gu P Γ H y s' m' K
 | .cond c x y,s,m,K=>match ev Γ s c with
  | some (.bool b)=>match b with
   | true=>Gu P Γ H x s m K
   | false=>Gu P Γ H y s m K
  | _=>False
 | .region _ ops draw,s,m,K=>match draw with
  | false=>B1 P Γ ops.toList ops.toList s m K
  | true=>False
 | _,_,_,_=>False
theorem HJ{H:Hk}:∀(c:Code) (s:St) (m:gU) (K:St->gU->Prop),Gu P Γ H c s m K->qZ P Γ B c s m fun e s' m'=>match e with
  | .normal=>K s' m'
  | _=>False:=by
 intro c
 induction c with
 | skip=>exact fun s m K h=>.of rfl ⟨fun rd X ds D ρ a w hD hs hB _=>wpIn_skip ⟨s,ρ,h,hB,hs,Ext.refl fun i hi=>.inl hi⟩⟩
 | seq x y ihx ihy=>
  intro s m K h;refine qZ.seq ?_;obtain⟨h'⟩:=ihx s m _ h;refine⟨fun X ds D ρ a w c₀ cs hD hs hB hm=>xZ (h' X ds D ρ a w c₀ cs hD hs hB hm) ?_⟩;rintro e a' cs' w' ⟨s',m',ρ',hq,rest⟩;refine⟨s',m',ρ', ?_,rest⟩;cases e with
  | normal=>exact ihy s' m' K hq
  | _=>exact(show False from hq).elim
 | cond c x y ihx ihy=>
  intro s m K h;simp only[Gu] at h;split at h
  ·rename_i b hc;refine qZ.cond hc ?_;cases b with
   | true=>exact ihx s m K h
   | false=>exact ihy s m K h
  ·exact h.elim
 | region id ops draw=>
  intro s m K h;cases draw with
  | false=>exact qZ.region h
  | true=>exact(show False from h).elim
 | _=>exact fun s m K h=>(show False from h).elim
def DfR(ρ:Nat->dC)(D:Nat->Prop)(O:Nat->Prop)(w:World)(v:AV)(d:Deferred):Prop:=
 ∃(F:FuncId) (first cap:List AV) (vs:List Value) (a2:Array Value),v = .fn (.func F) first cap/\d.target = .fn (.func F) a2/\d.args.toList++a2.toList=vs/\jA ρ D O w (first++cap) vs
def Dr(P:Program)(Γ:List (Nat × AV))(H:Hk)(rs:List ResultVar)(v:AV)(s:St)(m:gU)(Q:AV->aS->Nat->Prop)(Qp:Value->aS->Nat->Prop):Prop:=
 match v with
 | .fn (.func F) first cap=>match P.funcs[F]? with
  | some fn=>match fn.body with
   | some c=>match fn.name == "runtime.NumGoroutine" with
    | false=>match fn.results.toList with
     | []=>Gu P Γ H c (enter fn.ntmps (first++cap) s.mem s.nx) m fun s' m'=>match m' with
      | .pan x=>Qp x s'.mem s'.nx
      | _=>match xB P rs { s with mem:=s'.mem,nx:=s'.nx } with
       | some r=>Q r s'.mem s'.nx
       | none=>False
     | _::_=>False
    | true=>False
   | none=>False
  | none=>False
 | _=>False
theorem xA{H:Hk}{X:Nat->Prop}{D:Nat->Prop}{ρ ρ0:Nat->dC}{a:Act}{w w0:World}{mem0:aS}{d:Deferred}{v:AV}{fn:Func}{Qr:AV->aS->Nat->Prop}{Qp:Value->aS->Nat->Prop}
  (hD:∀i,D i->i<B) (hs:SR Γ X ([d],0) ρ (dn D B s.nx) s a w) (hB:B<=s.nx) (hv:DfR ρ (dn D B s.nx) (OX X ρ s.mem) w v d) (hext:Ext D ρ0 mem0 w0 ρ (dn D B s.nx) s.mem w)
  (hm:m.mode≠.run) (h:Dr P Γ H fn.results.toList v s m Qr Qp) :
  Leaves P fn a.tmps (fun e w'=>∃(mem':aS) (nx':Nat) (ρ':Nat->dC),B<=nx'/\MR Γ X ρ' (dn D B nx') mem' w'/\Ext D ρ0 mem0 w0 ρ' (dn D B nx') mem' w' /\
   ((∃(r:AV) (v:Value),e = .returned v/\Qr r mem' nx'/\VR ρ' (dn D B nx') (OX X ρ' mem') w' r v)∨(∃x:Value,e = .panicked [pe x]/\Qp x mem' nx'))) [d] m.mode w:=by
 obtain⟨F,first,cap,vs,a2,rfl,ht,hvs,hvr⟩:=hv;simp only[Dr] at h;split at h<;>first|exact h.elim|skip
 rename_i fd hf;split at h<;>first|exact h.elim|skip
 rename_i c hc;split at h<;>first|exact h.elim|skip
 rename_i hname;split at h<;>first|exact h.elim|skip
 rename_i hres;have hname':¬fd.name = "runtime.NumGoroutine" := by simpa using hname
 refine⟨hm,.func F,a2,F,vs.toArray,ht, ?_, ?_⟩
 ·rw[ht,←hvs];have e:(d.args.toList++a2.toList).toArray=d.args++a2:=by apply UC;simp
  simp[invoke,callFunc,hf,hc,hname',e]
 ·refine callsD_of_wpS hf hc fun c₀ cs hc0=>?_
  have hwide:∀id,dn (dn D B s.nx) s.nx s.nx id->dn D B s.nx id:=rB hB (R2 _);have hsr:=wW (n:=fd.ntmps) (rQ hD hB) hs.mr hvr (TC _);refine xZ ((HJ (B:=s.nx) (H:=H) c _ _ _ h).run X [] (dn D B s.nx) ρ _ w c₀ cs (rQ hD hB) hsr (R2 _) hc0) ?_;rintro e a' cs' w' ⟨s',m',ρ',hq,rfl,hB',hs',hext'⟩;cases e with
  | normal=>
   have hr0:(results fd a'.tmps).run P w' = .ok (.tuple #[]) w':=by
    have:=vY (P:=P) (w:=w') (fn:=fd) (tmps:=a'.tmps) (vs:=[]) (by rw[hres];simp);simpa using this
   have ext2:=hext.trans ((hext'.sub fun i hi=>.inl hi).wide (rB hB hB'));obtain⟨m2,mono2,_⟩:=hs'.mr.widen (rB hB hB');refine⟨hs'.def0.eq,m'.mode,rfl,.tuple #[],hr0, ?_⟩;have hs2:SR Γ X ([],0) ρ' (dn D B s'.nx) { s with mem:=s'.mem,nx:=s'.nx } { tmps:=a.tmps,defers:=[] } w':=
    ⟨m2,Aa.start (ds:=([],0)) (TC _),hs.size,fun i u hi=>mono2 _ _ (hext'.vr (hs.slot i u hi))⟩
   have ret:settle m'.mode = .returning->(match xB P fn.results.toList { s with mem:=s'.mem,nx:=s'.nx } with
       | some r=>Qr r s'.mem s'.nx
       | none=>False)->Leaves P fn a.tmps (fun e w'=>∃(mem':aS) (nx':Nat) (ρ':Nat->dC),B<=nx'/\MR Γ X ρ' (dn D B nx') mem' w'/\Ext D ρ0 mem0 w0 ρ' (dn D B nx') mem' w' /\
   ((∃(r:AV) (v:Value),e = .returned v/\Qr r mem' nx'/\VR ρ' (dn D B nx') (OX X ρ' mem') w' r v)∨(∃x:Value,e = .panicked [pe x]/\Qp x mem' nx'))) [] (settle m'.mode) w':=by
    intro hset hq;rw[hset];split at hq
    ·rename_i r hr;obtain⟨x,h1,h2⟩:=vS hs2 hr;exact⟨x,h1,s'.mem,s'.nx,ρ',Si hB hB',m2,ext2,.inl ⟨r,x,rfl,hq,h2⟩⟩
    ·exact hq.elim
   cases m' with
   | ret=>exact ret rfl hq
   | recd x=>exact ret rfl hq
   | pan x=>exact⟨s'.mem,s'.nx,ρ',Si hB hB',m2,ext2,.inr ⟨x,rfl,hq⟩⟩
  | _=>exact(show False from hq).elim
end
structure m7(P:Program)(Γ:List (Nat × AV))(B:Nat)(c:Code)(s:St)(Q:Exit->St->Option AV->Prop):Prop where
 run:∀(X:Nat->Prop) (D:Nat->Prop) (ρ:Nat->dC) (a:Act) (w:World),(∀i,D i->i<B)->SR Γ X ([],0) ρ (dn D B s.nx) s a w->B<=s.nx ->
  c.wp P (fun e a' w'=>∃(s':St) (v:Option AV) (ds:List Deferred) (ρ':Nat->dC),Q e s' v/\B<=s'.nx/\SR Γ X (ds,0) ρ' (dn D B s'.nx) s' a' w'/\Ext D ρ s.mem w ρ' (dn D B s'.nx) s'.mem w' /\
   (match v with
    | none=>ds=[]
    | some v=>∃d,ds=[d]/\DfR ρ' (dn D B s'.nx) (OX X ρ' s'.mem) w' v d)) a w
section
variable {P:Program} {Γ:List (Nat × AV)} {B:Nat} {s:St} {Q:Exit->St->Option AV->Prop}
theorem SR.widen{X:Nat->Prop}{ds:List Deferred × Nat}{ρ:Nat->dC}{D D':Nat->Prop}{a:Act}{w:World}(hs:SR Γ X ds ρ D s a w)(hD:∀i,D i->D' i):SR Γ X ds ρ D' s a w:=by
 obtain⟨m,mono,_⟩:=hs.mr.widen hD;exact⟨m,hs.def0,hs.size,fun i v hi=>mono _ _ (hs.slot i v hi)⟩
theorem m7.of{c:Code}(hc:gG c=false)(h:eA P Γ B c s fun e s'=>Q e s' none):m7 P Γ B c s Q:=by
 refine⟨fun X D ρ a w hD hs hB=>Go.wp_mono (D2.1 (h.run none X ([],0) D ρ a w hD hs hB (.no hc))) ?_⟩;rintro e a' w' ⟨s',ρ',hq,hB',hs',hext⟩;exact⟨s',none,[],ρ',hq,hB',hs',hext,rfl⟩
theorem DfR.vr{X:Nat->Prop}{D D':Nat->Prop}{ρ ρ':Nat->dC}{mem mem':aS}{w w':World}{v:AV}{d:Deferred}(h:Ext D ρ mem w ρ' D' mem' w')(hv:DfR ρ D (OX X ρ mem) w v d):DfR ρ' D' (OX X ρ' mem') w' v d:=by
 obtain⟨F,first,cap,vs,a2,h1,h2,h3,h4⟩:=hv;exact⟨F,first,cap,vs,a2,h1,h2,h3,h4.1,fun j c x hc hx=>h.vr (h4.2 j c x hc hx)⟩
def QT(P:Program)(Γ:List (Nat × AV))(B:Nat)(y:Code)(Q:Exit->St->Option AV->Prop)(e:Exit)(s:St)(v:Option AV):Prop:=
 match e with
 | .normal=>match v with
  | none=>m7 P Γ B y s Q
  | some v=>gG y=false/\eA P Γ s.nx y s fun e s'=>Q e s' (some v)
 | e=>Q e s v
theorem m7.seq{x y:Code}(h:m7 P Γ B x s (QT P Γ B y Q)):m7 P Γ B (.seq x y) s Q:=by
 refine⟨fun X D ρ a w hD hs hB=>wp_seq (Go.wp_mono (h.run X D ρ a w hD hs hB) ?_)⟩;rintro e a' w' ⟨s',v,ds,ρ',hq,hB',hs',hext,hv⟩;cases e with
 | normal=>
  cases v with
  | none=>
   have hv:ds=[]:=hv;subst hv;refine Go.wp_mono ((show m7 P Γ B y s' Q from hq).run X D ρ' a' w' hD hs' hB') ?_;rintro e a2 w2 ⟨s2,v2,ds2,ρ2,h1,h2,h3,h4,h5⟩;exact⟨s2,v2,ds2,ρ2,h1,h2,h3,hext.trans h4,h5⟩
  | some v=>
   obtain⟨d,rfl,hd⟩:=hv;have key:=(show gG y=false/\eA P Γ s'.nx y s' (fun e s'=>Q e s' (some v)) from hq)
   refine Go.wp_mono (D2.1 (key.2.run none X ([d],0) (dn D B s'.nx) ρ' a' w' (rQ hD hB') (hs'.widen fun i hi=>.inl hi) (R2 _) (.no key.1))) ?_;rintro e a2 w2 ⟨s2,ρ2,h1,h2,h3,h4⟩;have hd2:=hd.vr h4;obtain⟨_,mono2,_⟩:=h3.mr.widen (rB hB' h2);obtain⟨F,first,cap,vs,a2,g1,g2,g3,g4⟩:=hd2;exact⟨s2,some v,[d],ρ2,h1,Si hB' h2,h3.widen (rB hB' h2),hext.trans ((h4.sub fun i hi=>.inl hi).wide (rB hB' h2)),d,rfl,F,first,cap,vs,a2,g1,g2,g3,g4.1,fun j c x hc hx=>mono2 _ _ (g4.2 j c x hc hx)⟩
 | exit i=>exact⟨s',v,ds,ρ',hq,hB',hs',hext,hv⟩
 | goto l=>exact⟨s',v,ds,ρ',hq,hB',hs',hext,hv⟩
 | ret=>exact⟨s',v,ds,ρ',hq,hB',hs',hext,hv⟩
 | panic c=>exact⟨s',v,ds,ρ',hq,hB',hs',hext,hv⟩
 | outgrown=>exact⟨s',v,ds,ρ',hq,hB',hs',hext,hv⟩
def Ex(P:Program)(Γ:List (Nat × AV))(ops:List Oper):List Oper->St->(St->AV->Prop)->Prop
 | [],_,_=>False
 | o::r,s,K=>match lL ops s o.guard with
  | some true=>match o.op with
   | .defer c=>match r with
    | []=>match c.args.toList with
     | []=>match c.callee with
      | .value f=>match ev Γ s f with
       | some (.fn (.func F) first cap)=>match eI s o.dst (.tup []) s.mem s.nx with
        | some s'=>K s' (.fn (.func F) first cap)
        | none=>False
       | _=>False
      | _=>False
     | _::_=>False
    | _::_=>False
   | op=>match cT P Γ s op with
    | some (v,mem,nx)=>match eI s o.dst v mem nx with
     | some s'=>Ex P Γ ops r s' K
     | none=>False
    | none=>False
  | _=>False
theorem AM(ops:List Oper):∀(l:List Oper) (s:St) (K:St->AV->Prop),Ex P Γ ops l s K ->
  ∀(X:Nat->Prop) (D:Nat->Prop) (ρ:Nat->dC) (a:Act) (w:World) (Q:Exit->Act->World->Prop),(∀i,D i->i<B)->SR Γ X ([],0) ρ (dn D B s.nx) s a w->B<=s.nx ->
   (∀(s':St) (v:AV) (d:Deferred) (ρ':Nat->dC) (a':Act) (w':World),K s' v->B<=s'.nx->SR Γ X ([d],0) ρ' (dn D B s'.nx) s' a' w'->Ext D ρ s.mem w ρ' (dn D B s'.nx) s'.mem w'->DfR ρ' (dn D B s'.nx) (OX X ρ' s'.mem) w' v d->Q .normal a' w')->wpList P ops.toArray Q l a w
 | [],s,K,h,X,D,ρ,a,w,Q,hD,hs,hB,hQ=>h.elim
 | o::r,s,K,h,X,D,ρ,a,w,Q,hD,hs,hB,hQ=>by
  simp only[Ex] at h;refine wpList_step fun K' hK'=>?_
  split at h<;>first|exact h.elim|skip
  rename_i hw;rw[gS hs hw];simp only[if_true];split at h
  ·rename_i c hop;split at h<;>first|exact h.elim|skip
   split at h<;>first|exact h.elim|skip
   rename_i hargs;split at h<;>first|exact h.elim|skip
   rename_i f hc;split at h<;>first|exact h.elim|skip
   rename_i F first cap hf
   split at h<;>first|exact h.elim|skip
   rename_i s' hst;have hv:=aY hs hf;generalize he:a.eval f=fv at hv;cases hv with
   | fn _ _ _ a1 a2 l1 l2 r1 r2=>
    have hargs':c.args = #[]:=by apply UC;simpa using hargs
    have e1:(execOp a.eval o).run P w = .ok (.defer { target:=.fn (.func F) a2,args:=a1 }) w:=by
     simp[execOp,hop,resolve,hc,he,Deferred.ofValue,hargs']
    unfold Oper.wp;rw[e1];have hs':SR Γ X ([{ target:=.fn (.func F) a2,args:=a1 }],0) ρ (dn D B s.nx) s { a with defers:={ target:=.fn (.func F) a2,args:=a1 }::a.defers } w:=
     ⟨hs.mr,by rw[hs.def0.eq];exact Aa.start (ds:=([_],0)) (TC _),hs.size,hs.slot⟩
    obtain⟨h1,h2,h3⟩:=f8 hst hs' hs'.mr sG (fun h=>h) (fun _ _ h=>h);refine hK' _ _ (wpList_nil (hQ s' _ _ ρ _ w h (by rw[h3];exact hB) (by rw[h3];exact h1) (by rw[h2,h3];exact Ext.refl fun i hi=>.inl hi) ?_));refine⟨F,first,cap,a1.toList++a2.toList,a2,rfl,rfl,rfl, ?_⟩;rw[h2,h3];exact jA.append ⟨by simpa using l1,fun j c x h1 h2=>r1 j c x h1 (by simpa using h2)⟩ ⟨by simpa using l2,fun j c x h1 h2=>r2 j c x h1 (by simpa using h2)⟩
  ·rename_i hnd;split at h<;>first|exact h.elim|skip
   rename_i v mem nx hstep;split at h<;>first|exact h.elim|skip
   rename_i s' hst;have hnx:s.nx<=nx:=by rcases wN hstep with h'|h'<;>omega
   obtain⟨x,n,w',ρ',e1,e2,m1,v1,mono1,ext1⟩:=mO (P:=P) (D:=dn D B s.nx) (D':=dn D B nx) (fun h'=>Tb _ (rQ hD hB _ h')) (uG hnx) hs o (fun e=>.inr ⟨hB,by omega⟩) hstep;obtain⟨h1,h2,h3⟩:=f8 hst hs m1 v1 (ext1 _ fun i hi=>hi).mks mono1;have fin:K' (a.put o.dst x) w':=hK' _ _ (AM ops r s' K h X D ρ' _ w' Q hD (by rw[h3];exact h1) (by rw[h3];exact Si hB hnx) fun s2 v2 d2 ρ2 a2 w2 k1 k2 k3 k4 k5=>hQ s2 v2 d2 ρ2 a2 w2 k1 k2 k3 ((ext1 D fun i hi=>.inl hi).trans (by rw[←h2];exact k4)) k5);unfold Oper.wp;rw[e1];rcases e2 with rfl|⟨rfl,rfl⟩
   ·exact fin
   ·exact fin
theorem m7.region{id:Nat}{ops:Array Oper}(h:Ex P Γ ops.toList ops.toList s fun s' v=>Q .normal s' (some v)):m7 P Γ B (.region id ops false) s Q:=by
 refine⟨fun X D ρ a w hD hs hB=>wp_region_list ?_⟩;have:=AM ops.toList ops.toList s _ h X D ρ a w (fun e a' w'=>∃(s':St) (v:Option AV) (ds:List Deferred) (ρ':Nat->dC),Q e s' v/\B<=s'.nx/\SR Γ X (ds,0) ρ' (dn D B s'.nx) s' a' w'/\Ext D ρ s.mem w ρ' (dn D B s'.nx) s'.mem w' /\
   (match v with
    | none=>ds=[]
    | some v=>∃d,ds=[d]/\DfR ρ' (dn D B s'.nx) (OX X ρ' s'.mem) w' v d)) hD hs hB
  (fun s' v d ρ' a' w' h1 h2 h3 h4 h5=>⟨s',some v,[d],ρ',h1,h2,h3,h4,d,rfl,h5⟩)
 simpa using this
def ND(P:Program)(Γ:List (Nat × AV))(H:Hk)(rs:List ResultVar)(Q:AV->aS->Nat->Prop)(Qp:Value->aS->Nat->Prop)(s:St)(v:Option AV):Prop:=
 match v with
 | none=>match xB P rs s with
  | some r=>Q r s.mem s.nx
  | none=>False
 | some v=>Dr P Γ H rs v s .ret Q Qp
def RY(P:Program)(Γ:List (Nat × AV))(H:Hk)(rs:List ResultVar)(Q:AV->aS->Nat->Prop)(Qp:Value->aS->Nat->Prop)(x:Value)(s:St)(v:Option AV):Prop:=
 match v with
 | none=>Qp x s.mem s.nx
 | some v=>Dr P Γ H rs v s (.pan x) Q Qp
def BQ(P:Program)(Γ:List (Nat × AV))(H:Hk)(rs:List ResultVar)(Q:AV->aS->Nat->Prop)(Qp:Value->aS->Nat->Prop):Exit->St->Option AV->Prop:=fun e s v=>
 match e with
 | .normal=>ND P Γ H rs Q Qp s v
 | .ret=>ND P Γ H rs Q Qp s v
 | .panic [⟨x,false,false⟩]=>RY P Γ H rs Q Qp x s v
 | _=>False
theorem rJ{H:Hk}{F:FuncId}{fn:Func}{c:Code}{args:List AV}{mem:aS}{nx:Nat}{Q:AV->aS->Nat->Prop}{Qp:Value->aS->Nat->Prop}(hf:P.funcs[F]? = some fn)(hb:fn.body=some c)
  (h:m7 P Γ nx c (enter fn.ntmps args mem nx) (BQ P Γ H fn.results.toList Q Qp)) (hF:Nat.beq F YF=false:=by rfl):bO P Γ F args mem nx Q Qp:=by
 refine⟨fun X D ρ w vs hD hm hv=>.of hF (calls_of_wp_defers hf hb ?_)⟩;refine Go.wp_mono (h.run X D ρ _ w hD (wW hD hm hv (TC _)) (R2 _)) ?_;rintro e a' w' ⟨s',v,ds,ρ',hq,hB',hs',hext,hv⟩;have ret:ND P Γ H fn.results.toList Q Qp s' v->Leaves P fn a'.tmps (fun e w'=>∃(mem':aS) (nx':Nat) (ρ':Nat->dC),nx<=nx'/\MR Γ X ρ' (dn D nx nx') mem' w'/\Ext D ρ mem w ρ' (dn D nx nx') mem' w' /\
   ((∃(r:AV) (v:Value),e = .returned v/\Q r mem' nx'/\VR ρ' (dn D nx nx') (OX X ρ' mem') w' r v)∨(∃x:Value,e = .panicked [pe x]/\Qp x mem' nx'))) a'.defers .returning w':=by
  intro hq;cases v with
  | none=>
   have hv:ds=[]:=hv;subst hv;rw[hs'.def0.eq];simp only[ND] at hq;split at hq
   ·rename_i r hr;obtain⟨x,h1,h2⟩:=vS hs' hr;exact⟨x,h1,s'.mem,s'.nx,ρ',hB',hs'.mr,hext,.inl ⟨r,x,rfl,hq,h2⟩⟩
   ·exact hq.elim
  | some v=>
   obtain⟨d,rfl,hd⟩:=hv;rw[hs'.def0.eq];exact xA (B:=nx) (m:=.ret) hD hs' hB' hd hext (by simp[gU.mode]) hq
 cases e with
 | normal=>exact ret hq
 | ret=>exact ret hq
 | panic ch=>
  unfold BQ at hq;split at hq
  ·rename_i e;cases e
  ·rename_i e;cases e
  ·rename_i x e;cases e
   show Leaves P fn a'.tmps _ a'.defers (.panicking [pe x]) w'
   cases v with
   | none=>
    have hv:ds=[]:=hv;subst hv;rw[hs'.def0.eq];exact⟨s'.mem,s'.nx,ρ',hB',hs'.mr,hext,.inr ⟨x,rfl,hq⟩⟩
   | some v=>
    obtain⟨d,rfl,hd⟩:=hv;rw[hs'.def0.eq];exact xA (B:=nx) (m:=.pan x) hD hs' hB' hd hext (by simp[gU.mode]) hq
  ·exact hq.elim
 | _=>exact(show False from hq).elim
end
end Go.Ax
namespace Go.Ax
open Go
def QR(F:Nat):List Nat->Bool
 | []=>false
 | G::r=>match Nat.beq G F with
  | true=>true
  | false=>QR F r
def N9:List Oper->Bool
 | []=>false
 | o::r=>match o.op with
  | .defer _=>true
  | _=>N9 r
def Hp(cl:Bool)(P:Program)(Γ:List (Nat × AV))(H:Hk):Code->St->(Exit->St->Option AV->Prop)->Prop
 | .seq x y,s,Q=>Hp cl P Γ H x s fun e s' v=>match e with
  | .normal=>match v with
   | none=>Hp cl P Γ H y s' Q
   | some v=>match gG y with
    | false=>zZ cl P Γ H y s' fun e s''=>Q e s'' (some v)
    | true=>False
  | e=>Q e s' v
 | .region id ops draw,s,Q=>match N9 ops.toList with
  | true=>match draw with
   | false=>Ex P Γ ops.toList ops.toList s fun s' v=>Q .normal s' (some v)
   | true=>False
  | false=>zZ cl P Γ H (.region id ops draw) s fun e s'=>Q e s' none
 | c,s,Q=>match gG c with
  | false=>zZ cl P Γ H c s fun e s'=>Q e s' none
  | true=>False
theorem Gv{cl:Bool}{P:Program}{Γ:List (Nat × AV)}{H:Hk}(hH:∀B,yK P Γ B H)(B:Nat):∀(c:Code) (s:St) (Q:Exit->St->Option AV->Prop),Hp cl P Γ H c s Q->m7 P Γ B c s Q:=by
 intro c
 induction c with
 | seq x y ihx ihy=>
  intro s Q h;simp only[Hp] at h;refine m7.seq ?_;obtain⟨h'⟩:=ihx s _ h;refine⟨fun X D ρ a w hD hs hB=>Go.wp_mono (h' X D ρ a w hD hs hB) ?_⟩;rintro e a' w' ⟨s',v,ds,ρ',hq,rest⟩;refine⟨s',v,ds,ρ', ?_,rest⟩;cases e with
  | normal=>
   cases v with
   | none=>exact ihy s' Q hq
   | some v=>
    simp only at hq;split at hq
    ·rename_i hr;exact⟨hr,fB (hH s'.nx) y s' _ hq⟩
    ·exact hq.elim
  | exit i=>exact hq
  | goto l=>exact hq
  | ret=>exact hq
  | panic c=>exact hq
  | outgrown=>exact hq
 | region id ops draw=>
  intro s Q h;simp only[Hp] at h;split at h
  ·split at h
   ·exact m7.region h
   ·exact h.elim
  ·exact .of rfl (fB (hH B) _ _ _ h)
 | _=>
  intro s Q h;simp only[Hp] at h;split at h
  ·rename_i hr;exact .of hr (fB (hH B) _ _ _ h)
  ·exact h.elim
def HK(P:Program)(Γ:List (Nat × AV))(H:Hk)(args:List AV)(mem:aS)(nx:Nat)(K:AV->aS->Nat->Prop):Prop:=
 match args with
 | .yld id::rest=>opt (lk mem id) fun b=>match b with
  | .loop sl nt ps ca cb st pd=>match gG ca with
   | false=>match gG cb with
    | false=>opt (x8 nt ps.toList rest sl) fun sl'=>zZ true P Γ H ca ⟨sl',mem,nx,nt⟩ fun e s1=>match e with
     | .normal=>CJ s1 fun sl1 m1 n1 t1=>opt (lk m1 id) fun b1=>match b1 with
      | .loop sl nt ps ca cb' .ready pd=>I7 m1 id (.loop sl nt ps ca cb' .busy pd) fun m2=>zZ true P Γ H cb ⟨sl1,m2,n1,t1⟩ fun e s3=>CJ s3 fun _ m3 n3 _=>opt (lk m3 id) fun b3=>match b3 with
       | .loop sl nt ps ca cb _ _=>match e with
        | .normal=>I7 m3 id (.loop sl nt ps ca cb .ready none) fun m=>K (.bool true) m n3
        | .ret=>I7 m3 id (.loop sl nt ps ca cb .done (some .ret)) fun m=>K (.bool false) m n3
        | .exit i=>I7 m3 id (.loop sl nt ps ca cb .done (some (.exit i))) fun m=>K (.bool false) m n3
        | _=>False
       | _=>False
      | _=>False
     | _=>False
    | true=>False
   | true=>False
  | _=>False
 | _=>False
theorem D5{P:Program}{Γ:List (Nat × AV)}{H:Hk}(hH:∀B,yK P Γ B H){args:List AV}{mem:aS}{nx:Nat}{K:AV->aS->Nat->Prop}{Kp:Value->aS->Nat->Prop}(h:HK P Γ H args mem nx K):bO P Γ YF args mem nx K Kp:=by
 unfold HK at h;split at h<;>first|exact h.elim|skip
 obtain⟨b,h1,h⟩:=cD.1 h;split at h<;>first|exact h.elim|skip
 split at h<;>first|exact h.elim|skip
 rename_i ha;split at h<;>first|exact h.elim|skip
 rename_i hb;obtain⟨sl',h2,h⟩:=cD.1 h;refine bO.round h1 h2 ha hb ((fB (hH nx) _ _ _ h).mono fun e s1 h=>?_);unfold NR;split at h<;>first|exact h.elim|skip
 obtain⟨b1,h3,h⟩:=cD.1 (kZ.1 h);simp only[h3];split at h<;>first|exact h.elim|skip
 refine(fB (hH nx) _ _ _ (kT.1 h)).mono fun e s3 h=>?_
 unfold Ot;obtain⟨b3,h4,h⟩:=cD.1 (kZ.1 h);simp only[h4];split at h<;>first|exact h.elim|skip
 split at h
 ·exact kT.1 h
 ·exact kT.1 h
 ·exact kT.1 h
 ·exact h.elim
def rD(P:Program)(Γ:List (Nat × AV))(dl:List Nat):Nat->Hk
 | 0=>{ call:=fun _ _ _ _ _ _=>False,loop:=fun _ _ _=>False }
 | n+1=>{
   call:=fun F args mem nx K Kp=>match Nat.beq F YF with
    | false=>match P.funcs[F]? with
     | some fn=>match fn.body with
      | some c=>match QR F dl with
       | false=>vX fn.ntmps args mem nx fun s=>zZ true P Γ (rD P Γ dl n) c s (H9 P fn.results.toList K Kp)
       | true=>vX fn.ntmps args mem nx fun s=>Hp true P Γ (rD P Γ dl n) c s (BQ P Γ (rD P Γ dl n) fn.results.toList K Kp)
      | none=>False
     | none=>False
    | true=>HK P Γ (rD P Γ dl n) args mem nx K
   loop:=fun c s Q=>zZ true P Γ (rD P Γ dl n) c s fun e s'=>match e with
    | .normal=>(rD P Γ dl n).loop c s' Q
    | e=>Q e s' }
theorem Ew(P:Program)(Γ:List (Nat × AV))(dl:List Nat):∀n B,yK P Γ B (rD P Γ dl n) /\
  ∀c s Q,(rD P Γ dl n).loop c s Q->∀rd X ds D ρ a w,(∀i,D i->i<B)->SR Γ X ds ρ (dn D B s.nx) s a w->B<=s.nx->z7 rd ds c ->
   Code.roundsIn (FW rd) 0 P c (fun e a' w'=>∃(s':St) (ρ':Nat->dC),Q e s'/\B<=s'.nx/\SR Γ X ds ρ' (dn D B s'.nx) s' a' w'/\Ext D ρ s.mem w ρ' (dn D B s'.nx) s'.mem w') n a w:=by
 intro n
 induction n with
 | zero=>exact fun B=>⟨⟨fun _ _ _ _ _ _ h=>h.elim,fun _ _ _ h=>h.elim⟩,fun _ _ _ h=>h.elim⟩
 | succ n ih=>
  intro B;have hr:∀c s Q,(rD P Γ dl (n+1)).loop c s Q->∀rd X ds D ρ a w,(∀i,D i->i<B)->SR Γ X ds ρ (dn D B s.nx) s a w->B<=s.nx->z7 rd ds c ->
    Code.roundsIn (FW rd) 0 P c (fun e a' w'=>∃(s':St) (ρ':Nat->dC),Q e s'/\B<=s'.nx/\SR Γ X ds ρ' (dn D B s'.nx) s' a' w'/\Ext D ρ s.mem w ρ' (dn D B s'.nx) s'.mem w') (n+1) a w:=by
   intro c s Q h rd X ds D ρ a w hD hs hB hno;have h':=(fB (ih B).1 c s _ h).run rd X ds D ρ a w hD hs hB hno;rw[roundsIn_succ];refine wpIn_mono h' ?_;rintro e a1 w1 ⟨s1,ρ1,hq,hB1,hs1,hext⟩;cases e with
   | normal=>
    have key:=(ih B).2 c s1 Q hq rd X ds D ρ1 a1 w1 hD hs1 hB1 hno;refine AK n a1 w1 _ _ ?_ key;rintro e a2 w2 ⟨s2,ρ2,h1,h2,h3,h4⟩;exact⟨s2,ρ2,h1,h2,h3,hext.trans h4⟩
   | exit id=>exact⟨s1,ρ1,hq,hB1,hs1,hext⟩
   | goto l=>exact⟨s1,ρ1,hq,hB1,hs1,hext⟩
   | ret=>exact⟨s1,ρ1,hq,hB1,hs1,hext⟩
   | panic ch=>exact⟨s1,ρ1,hq,hB1,hs1,hext⟩
   | outgrown=>exact⟨s1,ρ1,hq,hB1,hs1,hext⟩
  refine⟨⟨fun F args mem nx K Kp h=>?_,fun c s Q h=>⟨fun rd X ds D ρ a w hD hs hB hno=>wpIn_loop_rounds (n+1) (hr c s Q h rd X ds D ρ a w hD hs hB hno.loop)⟩⟩,hr⟩;simp only[rD] at h;split at h
  ·rename_i hF;split at h
   ·rename_i fn hf;split at h
    ·rename_i c hc;split at h
     ·exact rZ hf hc ((fB (ih nx).1 _ _ _ (lO h)).mono fun _ _ h=>H4 h) hF
     ·exact rJ hf hc (Gv (fun B=>(ih B).1) nx _ _ _ (lO h)) hF
    ·exact h.elim
   ·exact h.elim
  ·rename_i hF;have e:=Rw hF;subst e;exact D5 (fun B=>(ih B).1) h
theorem CP{P:Program}{Γ:List (Nat × AV)}{F:FuncId}{args:List AV}{mem:aS}{nx:Nat}{Q:AV->aS->Nat->Prop}(dl:List Nat)(n:Nat)(h:(rD P Γ dl n).call F args mem nx Q fun _ _ _=>False):aM P Γ F args mem nx Q:=
 ((Ew P Γ dl n nx).1.call F args mem nx Q _ h).toC fun _ _ _ h=>h
end Go.Ax
