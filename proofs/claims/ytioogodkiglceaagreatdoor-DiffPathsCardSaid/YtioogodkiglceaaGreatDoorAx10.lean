/- A part of the proof. -/
import Derived.Test.YtioogodkiglceaaGreatDoorAx9
import Derived.Test.YtioogodkiglceaaGreatDoorProg
import Derived.KernelRfl
import Derived.Lib.ItoaMem
import Derived.Lib.AtoiAllCases
import Derived.Recover
set_option linter.unusedVariables false
set_option linter.unusedSimpArgs false
set_option linter.unusedSectionVars false
namespace Go.Proofs.YtioogodkiglceaaGreatDoor
open Go Go.Ax Go.Proofs Tryz
set_option maxRecDepth 100000
theorem OH(x:Int):bB prog [] 116 [.int .i64 x] (.bool false):=by
 refine eX bG func116 rfl ?_
 conv=>whnf
 refine aA (.bool _) ⟨?_,rfl,rfl⟩;simp
theorem NE(x:List UInt8):bB prog [] 117 [.str x] (.bool false):=by
 refine eX bG func117 rfl ?_
 conv=>whnf
 refine aA (.bool _) ⟨?_,rfl,rfl⟩;simp
theorem NV(x y:Int):bB prog [] 98 [.int .i64 x,.int .i64 y] (.int .i64 (tD x y)):=by
 refine eX bG func98 rfl ?_
 conv=>whnf
 refine(OH x).use bG (.cons (.int _ _) .nil) (.bool _) ?_
 conv=>whnf
 refine(OH y).use bG (.cons (.int _ _) .nil) (.bool _) ?_
 conv=>whnf
 refine aI (fun h=>?_) (fun h=>?_)
 ·conv=>whnf
  refine aA (.int _ _) ⟨?_,rfl,rfl⟩;simp at h;simp[tD,h]
 conv=>whnf
 refine aI (fun h'=>?_) (fun h'=>?_)
 ·conv=>whnf
  refine aA (.int _ _) ⟨?_,rfl,rfl⟩;simp at h h';simp only[tD];rw[VY om,Vb om]
 ·conv=>whnf
  refine aA (.int _ _) ⟨?_,rfl,rfl⟩;simp at h h';simp only[tD];rw[VY om,VY om]
theorem Ro(x y:List UInt8):bB prog [] 99 [.str x,.str y] (.int .i64 (kG x y)):=by
 refine eX bG func99 rfl ?_
 conv=>whnf
 refine(NE x).use bG (.cons (.str _) .nil) (.bool _) ?_
 conv=>whnf
 refine(NE y).use bG (.cons (.str _) .nil) (.bool _) ?_
 conv=>whnf
 refine aI (fun h=>?_) (fun h=>?_)
 ·conv=>whnf
  refine aA (.int _ _) ⟨?_,rfl,rfl⟩;rw[Fa.1 h]
 conv=>whnf
 refine aI (fun h'=>?_) (fun h'=>?_)
 ·conv=>whnf
  refine aA (.int _ _) ⟨?_,rfl,rfl⟩;rw[MP h h']
 ·conv=>whnf
  refine aA (.int _ _) ⟨?_,rfl,rfl⟩;rw[Ld h h']
theorem Qe(l1 l2:List a6)(hb:l1.length<=4294967296)(hc:∀a∈l1,∀b∈l2,bB prog [] 69 [bS a,bS b] (.int .i64 (cE a b))) :
  bB prog [] 100 [.il 4 (aQ l1),.il 4 (aQ l2),.fn (.func 69) [] []] (.int .i64 (gF l1 l2)):=by
 have n1:NN (.il 4 (aQ l1)):=.il' (aO l1);have n2:NN (.il 4 (aQ l2)):=.il' (aO l2);have n3:NN (.fn (.func 69) [] []):=.fn _ _ _ (by simp) (by simp);refine eX bG func100 rfl ?_
 conv=>whnf
 refine eD.loopAt bG (fun k:Nat=>k<=l1.length/\k<=l2.length/\gF l1 l2=gF (l1.drop k) (l2.drop k))
  (fun k=>⟨[(0,.il 4 (aQ l1)),(1,.il 4 (aQ l2)),(2,.fn (.func 69) [] []),(11,.il 4 (aQ l1)),(12,.int .i64 (aQ l1).length),(13,.int .i64 k)],[],0,39⟩)
  (fun k=>l1.length-k) 0 [] ⟨by simp,by simp,by simp⟩
  (bX ⟨aR n1,aR n2,aR n3,aR n1,aR (.int _ _),aR (.int _ _),trivial⟩) ?_
 rintro k ⟨h1,h2,h3⟩
 conv=>whnf
 refine aI (fun h=>?_) (fun h=>?_)
 ·have hk:k<l1.length:=by rw[aB] at h;simpa using h
  obtain⟨⟨ka,na,sa,ksa⟩,hv⟩:∃v,v=l1[k]:=⟨_,rfl⟩
  have hm:a6.mk ka na sa ksa∈l1:=by rw[hv];exact Vw hk
  have e:(aQ l1)[(k:Int).toNat]? = some (bS (.mk ka na sa ksa)):=by rw[Va,iT,VV hk,hv];rfl
  conv=>whnf
  refine aD e ?_
  conv=>whnf
  refine aI (fun h'=>?_) (fun h'=>?_)
  ·have hk2:k=l2.length:=by rw[aB] at h';simp at h';omega
   conv=>whnf
   refine aA (.int _ _) ⟨?_,rfl,rfl⟩;rw[h3,WV (l:=l2) om,List.drop_eq_getElem_cons hk,gF]
  ·have hk2:k<l2.length:=by rw[aB] at h';simpa using h'
   obtain⟨⟨kb,nb,sb,ksb⟩,hv2⟩:∃v,v=l2[k]:=⟨_,rfl⟩
   have hm2:a6.mk kb nb sb ksb∈l2:=by rw[hv2];exact Vw hk2
   have e2:(aQ l2)[(k:Int).toNat]? = some (bS (.mk kb nb sb ksb)):=by rw[Va,iT,VV hk2,hv2];rfl
   conv=>whnf
   refine aD e2 ?_
   conv=>whnf
   refine(hc _ hm _ hm2).use bG (.cons (bN _) (.cons (bN _) .nil)) (.int _ _) ?_
   conv=>whnf
   have hs:=E7 hk hk2;rw[←hv,←hv2] at hs;refine aI (fun h4=>?_) (fun h4=>?_)
   ·conv=>whnf
    refine aA (.int _ _) ⟨?_,rfl,rfl⟩;have h4:cE (.mk ka na sa ksa) (.mk kb nb sb ksb)≠0:=by simpa using h4
    rw[h3,hs,andThen,VY h4]
   ·have h4:cE (.mk ka na sa ksa) (.mk kb nb sb ksb)=0:=by simpa using h4
    conv=>whnf
    refine .mk (k+1) [] ⟨om,om, ?_⟩ (bX ⟨aR n1,aR n2,aR n3,aR n1,aR (.int _ _),⟨_,rfl,.eq (.int _ _) ?_⟩,trivial⟩) om
    ·rw[h3,hs,andThen,Vb h4]
    ·rw[cV ⟨om,om⟩];rfl
 ·have hk:k=l1.length:=by rw[aB] at h;simp at h;omega
  have hd:l1.drop k=[]:=WV om
  conv=>whnf
  refine aI (fun h'=>?_) (fun h'=>?_)
  ·have hk2:l1.length<l2.length:=by rw[aB,aB] at h';simpa using h'
   conv=>whnf
   refine aA (.int _ _) ⟨?_,rfl,rfl⟩;rw[h3,hd,List.drop_eq_getElem_cons (show k<l2.length by omega),gF]
  ·have hk2:l2.length<=l1.length:=by rw[aB,aB] at h';simpa using h'
   conv=>whnf
   refine aA (.int _ _) ⟨?_,rfl,rfl⟩;rw[h3,hd,WV om,gF]
theorem nS:∀(a b:a6),gH a->bB prog [] 69 [bS a,bS b] (.int .i64 (cE a b))
 | .mk ka na sa ksa,.mk kb nb sb ksb,ha=>by
  simp only[gH] at ha;have hkids:∀a∈ksa,∀b∈ksb,bB prog [] 69 [bS a,bS b] (.int .i64 (cE a b)):=fun a hm b _=>nS a b (i8 ha.2.2.2.2 a hm)
  refine eX bG func69 rfl ?_
  conv=>whnf
  refine(NV ka kb).use bG (.cons (.int _ _) (.cons (.int _ _) .nil)) (.int _ _) ?_
  conv=>whnf
  refine aI (fun h=>?_) (fun h=>?_)
  ·conv=>whnf
   refine aA (.int _ _) ⟨?_,rfl,rfl⟩;have h:tD ka kb≠0:=by simpa using h
   rw[cE,andThen,VY h]
  have h:tD ka kb=0:=by simpa using h
  conv=>whnf
  refine(NV na nb).use bG (.cons (.int _ _) (.cons (.int _ _) .nil)) (.int _ _) ?_
  conv=>whnf
  refine aI (fun h2=>?_) (fun h2=>?_)
  ·conv=>whnf
   refine aA (.int _ _) ⟨?_,rfl,rfl⟩;have h2:tD na nb≠0:=by simpa using h2
   rw[cE,andThen,Vb h,andThen,VY h2]
  have h2:tD na nb=0:=by simpa using h2
  conv=>whnf
  refine(Ro sa sb).use bG (.cons (.str _) (.cons (.str _) .nil)) (.int _ _) ?_
  conv=>whnf
  refine aI (fun h3=>?_) (fun h3=>?_)
  ·conv=>whnf
   refine aA (.int _ _) ⟨?_,rfl,rfl⟩;have h3:kG sa sb≠0:=by simpa using h3
   rw[cE,andThen,Vb h,andThen,Vb h2,andThen,VY h3]
  have h3:kG sa sb=0:=by simpa using h3
  conv=>whnf
  refine(Qe ksa ksb ha.2.2.2.1 hkids).use bG (.cons (.il' (aO _)) (.cons (.il' (aO _)) (.cons (.fn _ _ _ (by simp) (by simp)) .nil))) (.int _ _) ?_
  conv=>whnf
  refine aA (.int _ _) ⟨?_,rfl,rfl⟩;rw[cE,andThen,Vb h,andThen,Vb h2,andThen,Vb h3]
 termination_by a=>SizeOf.sizeOf a
 decreasing_by simp;have:=Wo hm;omega
theorem HG(b:Bool):bB prog [] 114 [.bool b] (.int .i64 (if b then -1 else 1)):=by
 refine eX bG func114 rfl ?_
 conv=>whnf
 refine aI (fun h=>?_) (fun h=>?_)
 ·conv=>whnf
  exact aA (.int _ _) ⟨by rw[h];rfl,rfl,rfl⟩
 ·conv=>whnf
  exact aA (.int _ _) ⟨by rw[h];rfl,rfl,rfl⟩
theorem zO:∀(a b:a6),gH a->bB prog [] 95 [bS a,bS b] (.int .i64 (cE a b))
 | .mk ka na sa ksa,.mk kb nb sb ksb,ha=>by
  simp only[gH] at ha;have hb:ksa.length<=4294967296:=ha.2.2.2.1;have hkids:∀a∈ksa,∀b∈ksb,bB prog [] 95 [bS a,bS b] (.int .i64 (cE a b)):=fun a hm b _=>zO a b (i8 ha.2.2.2.2 a hm)
  refine eX bG func95 rfl ?_
  conv=>whnf
  refine aI (fun h=>?_) (fun h=>?_)
  ·conv=>whnf
   refine(HG _).use bG (.cons (.bool _) .nil) (.int _ _) ?_
   conv=>whnf
   refine aA (.int _ _) ⟨?_,rfl,rfl⟩;rw[Lu (by simpa using h)];simp
  have h:ka=kb:=by simpa using h
  conv=>whnf
  refine aI (fun h2=>?_) (fun h2=>?_)
  ·conv=>whnf
   refine(HG _).use bG (.cons (.bool _) .nil) (.int _ _) ?_
   conv=>whnf
   refine aA (.int _ _) ⟨?_,rfl,rfl⟩;rw[N4 h (by simpa using h2)];simp
  have h2:na=nb:=by simpa using h2
  conv=>whnf
  refine aI (fun h3=>?_) (fun h3=>?_)
  ·conv=>whnf
   refine(HG _).use bG (.cons (.bool _) .nil) (.int _ _) ?_
   conv=>whnf
   refine aA (.int _ _) ⟨?_,rfl,rfl⟩;rw[SB h h2 (by simpa using h3)]
  have h3:sa=sb:=by simpa using h3
  have hcmp:cE (.mk ka na sa ksa) (.mk kb nb sb ksb)=gF ksa ksb:=SY h h2 h3
  conv=>whnf
  refine eD.loopAt bG (fun k:Nat=>k<=ksa.length/\k<=ksb.length/\gF ksa ksb=gF (ksa.drop k) (ksb.drop k))
   (fun k=>⟨[(2,.ptr 0 0 0),(3,.ptr 1 0 0),(5,.int .i64 k)],[(1,.row 38 4 [bS (.mk kb nb sb ksb)]),(0,.row 38 4 [bS (.mk ka na sa ksa)])],2,83⟩)
   (fun k=>ksa.length-k) 0 [(0,0),(1,1)] ⟨by simp,by simp,by simp⟩
   (aG _ rfl ⟨aL 1 (.cons (bN _) .nil),aL 0 (.cons (bN _) .nil),trivial⟩ ⟨aJ,aJ,aR (.int _ _),trivial⟩) ?_
  rintro k ⟨h4,h5,h6⟩
  conv=>whnf
  refine aI (fun h7=>?_) (fun h7=>?_)
  ·have hk:k<ksa.length:=by rw[aB] at h7;simpa using h7
   rw[h7]
   conv=>whnf
   refine aI (fun h8=>?_) (fun h8=>?_)
   ·have hk2:k<ksb.length:=by rw[aB] at h8;simpa using h8
    conv=>whnf
    have e1:=u5 hk;have e2:=u5 hk2;obtain⟨⟨k1,n1,s1,ks1⟩,hv1⟩:∃v,v=ksa[k]:=⟨_,rfl⟩
    obtain⟨⟨k2,n2,s2,ks2⟩,hv2⟩:∃v,v=ksb[k]:=⟨_,rfl⟩
    rw[←hv1] at e1;rw[←hv2] at e2;refine aD e1 ?_
    conv=>whnf
    refine aD e2 ?_
    conv=>whnf
    have hm1:a6.mk k1 n1 s1 ks1∈ksa:=by rw[hv1];exact Vw hk
    have hm2:a6.mk k2 n2 s2 ks2∈ksb:=by rw[hv2];exact Vw hk2
    have hs:=E7 hk hk2;rw[←hv1,←hv2] at hs;refine(hkids _ hm1 _ hm2).use bG (.cons (bN _) (.cons (bN _) .nil)) (.int _ _) ?_
    conv=>whnf
    refine aI (fun h9=>?_) (fun h9=>?_)
    ·have h9:cE (.mk k1 n1 s1 ks1) (.mk k2 n2 s2 ks2)≠0:=by simpa using h9
     conv=>whnf
     refine aA (.int _ _) ⟨?_,rfl,rfl⟩;rw[hcmp,h6,hs,andThen,VY h9]
    ·have h9:cE (.mk k1 n1 s1 ks1) (.mk k2 n2 s2 ks2)=0:=by simpa using h9
     conv=>whnf
     refine .mk (k+1) [(0,0),(1,1)] ⟨om,om,by rw[h6,hs,andThen,Vb h9]⟩ (aG _ rfl ⟨aL 1 (.cons (bN _) .nil),aL 0 (.cons (bN _) .nil),trivial⟩ ⟨aJ,aJ,⟨_,rfl,.eq (.int _ _) ?_⟩,trivial⟩) om;rw[cV ⟨om,om⟩];rfl
   ·have hk2:k=ksb.length:=by rw[aB] at h8;simp at h8;omega
    conv=>whnf
    refine aI (fun h9=>?_) (fun h9=>?_)
    ·exfalso;rw[aB,aB] at h9;simp at h9;omega
    ·conv=>whnf
     refine(HG _).use bG (.cons (.bool _) .nil) (.int _ _) ?_
     conv=>whnf
     refine aA (.int _ _) ⟨?_,rfl,rfl⟩;rw[hcmp,h6,WV (l:=ksb) om,List.drop_eq_getElem_cons hk,gF,aB,aB,VY (by simp;omega)]
  ·have hk:k=ksa.length:=by rw[aB] at h7;simp at h7;omega
   have hd:ksa.drop k=[]:=WV om;rw[h7]
   conv=>whnf
   refine aI (fun h9=>?_) (fun h9=>?_)
   ·have h9:ksa.length=ksb.length:=by rw[aB,aB] at h9;simp at h9;omega
    conv=>whnf
    refine aA (.int _ _) ⟨?_,rfl,rfl⟩;rw[hcmp,h6,hd,WV om,gF]
   ·have h9:ksa.length≠ksb.length:=by rw[aB,aB] at h9;simp at h9;omega
    conv=>whnf
    refine(HG _).use bG (.cons (.bool _) .nil) (.int _ _) ?_
    conv=>whnf
    refine aA (.int _ _) ⟨?_,rfl,rfl⟩;rw[hcmp,h6,hd,List.drop_eq_getElem_cons (show k<ksb.length by omega),gF,aB,aB,Vb (by simp;omega)]
 termination_by a=>SizeOf.sizeOf a
 decreasing_by simp;have:=Wo hm;omega
def gB(l:List Int)(at_:Nat):AB:=.row 52 2 [.agg [.il 1 (aS l),.int .i64 at_]]
theorem U1(l:List Int)(i:Nat):jZ [.agg [.il 1 (aS l),.int .i64 i]]:=.cons (.agg' (.cons (.il' (aM l)) (.cons (.int _ _) .nil))) .nil
theorem Tr(l:List Int)(i:Nat)(most:Int)(hi:i<=4611686018427387904)(hm:most<=4611686018427387904) :
  aH prog [] 17 [.ptr 0 0 0,.int .i64 most] [(0,gB l i)] 1 fun r m n=>∃k:Int,r = .int .i64 k/\0<=k/\(k=0∨k<most)/\m=[(0,gB l (i+1))]:=by
 refine eX bG func17 rfl ?_;have hw:IntKind.i64.wrap ((i:Int)+1)=((i+1:Nat):Int):=cV ⟨om,om⟩;have fin:∀(k:Int) (n:Nat),0<=k->(k=0∨k<most)->kN 1 (fun r m _=>∃k:Int,r = .int .i64 k/\0<=k/\(k=0∨k<most)/\m=[(0,gB l (i+1))]) (.int .i64 k) [(0,.row 52 2 [.agg [.il 1 (aS l),.int .i64 (IntKind.i64.wrap ((i:Int)+1))]])] n:=by
  intro k n h1 h2;refine bJ (n':=1) (m':=[(0,gB l (i+1))]) [(0,0)] rfl ⟨⟨0,_,rfl,rfl,.eq (U1 l (i+1)) (by rw[hw])⟩,trivial⟩ (.same _ (.int _ _)) ⟨k,rfl,h1,h2,rfl⟩
 conv=>whnf
 refine aI (fun h=>?_) (fun h=>?_)
 ·rw[h]
  conv=>whnf
  exact fin 0 _ om (.inl rfl)
 ·have hlt:i<l.length:=by rw[aC] at h;simp at h;omega
  rw[h]
  conv=>whnf
  refine aI (fun h2=>?_) (fun h2=>?_)
  ·conv=>whnf
   exact fin 0 _ om (.inl rfl)
  ·have h2:2<=most:=by simpa using h2
   conv=>whnf
   refine aD (a:=.int .i64 l[i]) (by rw[Va,a8,VV hlt];rfl) ?_
   conv=>whnf
   refine aN (by rw[Vv om];rfl) ?_
   conv=>whnf
   have hr : -most<l[i].tmod most/\l[i].tmod most<most:=by
    constructor
    ·have:=Int.lt_tmod_of_pos l[i] (show 0<most by omega);omega
    ·exact Wp _ om
   refine aI (fun h3=>?_) (fun h3=>?_)
   ·have h3:l[i].tmod most<0:=by simpa using h3
    conv=>whnf
    have hw2:IntKind.i64.wrap (l[i].tmod most+most)=l[i].tmod most+most:=cV ⟨om,om⟩;rw[hw2];exact fin _ _ om (.inr om)
   ·have h3:0<=l[i].tmod most:=by simpa using h3
    conv=>whnf
    exact fin _ _ h3 (.inr hr.2)
theorem Pr(g:Nat){l:List Int}{i:Nat}(most:Int)(hi:i<=4611686018427387904)(hm:most<=4611686018427387904)(hp:1<=most){mem:aP}{nx:Nat}{K:AV->aP->Nat->Prop}(hg:lk mem g=some (gB l i))
  (hk:∀k:Int,0<=k->k<most->Dl g mem fun rest=>K (.int .i64 k) ((g,gB l (i+1))::rest) nx):aH prog [] 17 [.ptr g 0 0,.int .i64 most] mem nx K:=by
 refine aH.use1 bG (Tr l i most hi hm) g hg (U1 l i) (.cons (.ptr g 0 0 0 (by simp[lk])) (.cons (.same _ (.int _ _)) .nil)) ?_;rintro r m n ⟨k,rfl,h1,h2,rfl⟩;exact⟨_,rfl,.int _ _,U1 l (i+1),hk k h1 om⟩
theorem Eh{l:List a6}{k:Nat}{v a:a6}(h:l[k]? = some a):EC l k v=(cE a v == 0):=by simp[EC,h]
theorem EO{l:List a6}{k:Nat}{v:a6}(h:l.length<=k):EC l k v=false:=by simp[EC,Vo h]
theorem TE(l:List a6)(v:a6)(hl:l.length<=4294967296)(hok:∀a∈l,gH a) :
  bB prog [] 130 [.il 4 (aQ l),bS v] (.tup [.int .i64 (cD l v).1,.bool (cD l v).2]):=by
 obtain⟨vk,vn,vs,vks⟩:=v;have nl:NN (.il 4 (aQ l)):=.il' (aO l);have nt:∀(k:Int) (b:Bool),NN (.tup [.int .i64 k,.bool b]):=fun k b=>.tup' (.cons (.int _ _) (.cons (.bool _) .nil))
 refine eX bG func130 rfl ?_
 conv=>whnf
 refine eD.loopAt bG (fun k:Nat=>k<=l.length/\∀p a,p<k->l[p]? = some a->cE a (.mk vk vn vs vks)<0)
  (fun k=>⟨[(0,.il 4 (aQ l)),(3,.ptr 0 0 0),(6,.int .i64 k)],[(0,.row 38 4 [bS (.mk vk vn vs vks)])],1,27⟩)
  (fun k=>l.length-k) 0 [(0,0)] ⟨by simp,by simp⟩
  (aG _ rfl ⟨aL 0 (.cons (bN _) .nil),trivial⟩ ⟨aR nl,aJ,aR (.int _ _),trivial⟩) ?_
 rintro k ⟨h1,h2⟩
 conv=>whnf
 refine aI (fun h=>?_) (fun h=>?_)
 ·have hk:k<l.length:=by rw[aB] at h;simpa using h
  have e:=u5 hk;obtain⟨⟨ak,an,az,aks⟩,hv⟩:∃a,a=l[k]:=⟨_,rfl⟩
  rw[←hv] at e;have hm:a6.mk ak an az aks∈l:=by rw[hv];exact Vw hk
  have hg:l[k]? = some (a6.mk ak an az aks):=by rw[hv];exact VV hk
  conv=>whnf
  refine aD e ?_
  conv=>whnf
  refine(zO (.mk ak an az aks) (.mk vk vn vs vks) (hok _ hm)).use bG (.cons (bN _) (.cons (bN _) .nil)) (.int _ _) ?_
  conv=>whnf
  refine aI (fun h3=>?_) (fun h3=>?_)
  ·have h3:0<=cE (.mk ak an az aks) (.mk vk vn vs vks):=by simpa using h3
   conv=>whnf
   refine aA (nt _ _) ⟨?_,rfl,rfl⟩;rw[qS h1 h2 (fun a ha=>by rw[hg] at ha;cases ha;exact h3),Eh hg]
  ·have h3:cE (.mk ak an az aks) (.mk vk vn vs vks)<0:=by simpa using h3
   conv=>whnf
   refine .mk (k+1) [(0,0)] ⟨om,fun p a hp ha=>?_⟩ (aG _ rfl ⟨aL 0 (.cons (bN _) .nil),trivial⟩ ⟨aR nl,aJ,⟨_,rfl,.eq (.int _ _) ?_⟩,trivial⟩) om
   ·rcases Vm p k with hp'|hp'
    ·exact h2 p a hp' ha
    ·have:p=k:=om;subst this;rw[hg] at ha;cases ha;exact h3
   ·rw[cV ⟨om,om⟩];rfl
 ·have hk:k=l.length:=by rw[aB] at h;simp at h;omega
  conv=>whnf
  refine aA (nt _ _) ⟨?_,rfl,rfl⟩;rw[qS h1 h2 (fun a ha=>by rw[Vo om] at ha;cases ha),EO om,aB,hk]
theorem QP(l:List a6)(v:a6)(hl:l.length<=4294967296)(hok:∀a∈l,gH a)(hs:lN l) :
  bB prog [] 128 [.il 4 (aQ l),bS v,.fn (.func 69) [] []] (.tup [.int .i64 (cD l v).1,.bool (cD l v).2]):=by
 obtain⟨vk,vn,vs,vks⟩:=v;have nl:NN (.il 4 (aQ l)):=.il' (aO l);have nf:NN (.fn (.func 69) [] []):=.fn _ _ _ (by simp) (by simp);have nt:∀(k:Int) (b:Bool),NN (.tup [.int .i64 k,.bool b]):=fun k b=>.tup' (.cons (.int _ _) (.cons (.bool _) .nil))
 refine eX bG func128 rfl ?_
 conv=>whnf
 refine eD.loopAt bG (fun x:Nat × Nat=>x.1<=x.2/\x.2<=l.length/\(∀p a,p<x.1->l[p]? = some a->cE a (.mk vk vn vs vks)<0)/\∀a,l[x.2]? = some a->0<=cE a (.mk vk vn vs vks))
  (fun x=>⟨[(0,.il 4 (aQ l)),(2,.fn (.func 69) [] []),(4,.ptr 0 0 0),(8,.int .i64 (aQ l).length),(9,.int .i64 x.1),(10,.int .i64 x.2)],[(0,.row 38 4 [bS (.mk vk vn vs vks)])],1,49⟩)
  (fun x=>x.2-x.1) (0,l.length) [(0,0)] ⟨by simp,by simp,by simp,fun a ha=>by simp at ha⟩
  (aG _ rfl ⟨aL 0 (.cons (bN _) .nil),trivial⟩ ⟨aR nl,aR nf,aJ,aR (.int _ _),aR (.int _ _),⟨_,rfl,.eq (.int _ _) (by rw[aB])⟩,trivial⟩) ?_
 rintro⟨i,j⟩ ⟨h1,h2,h3,h4⟩
 dsimp only at h1 h2 h3 h4 ⊢
 conv=>whnf
 refine aI (fun h=>?_) (fun h=>?_)
 ·have hij:i<j:=by simpa using h
  have hw1:IntKind.i64.wrap ((i:Int)+j)=((i+j:Nat):Int):=cV ⟨om,om⟩;have hw2:IntKind.u64.wrap ((i+j:Nat):Int)=((i+j:Nat):Int):=IntWalk.u64_in _ ⟨om,om⟩;have hw3:((i+j:Nat):Int).fdiv (2 ^ min (Int.toNat 1) IntKind.u64.bits)=(((i+j)/2:Nat):Int):=by
   rw[show (2:Int) ^ min (Int.toNat 1) IntKind.u64.bits=2 from rfl,XB _ om];omega
  have hw4:IntKind.i64.wrap (((i+j)/2:Nat):Int)=(((i+j)/2:Nat):Int):=cV ⟨om,om⟩;generalize hm:(i+j)/2=m at *;have hm1:i<=m:=om;have hm2:m<j:=om;have hk:m<l.length:=om;have e:=u5 hk;obtain⟨⟨ak,an,az,aks⟩,hv⟩:∃a,a=l[m]:=⟨_,rfl⟩
  rw[←hv] at e;have hmem:a6.mk ak an az aks∈l:=by rw[hv];exact Vw hk
  have hg:l[m]? = some (a6.mk ak an az aks):=by rw[hv];exact VV hk
  conv=>whnf
  rw[hw1,hw2,hw3,hw4]
  conv=>whnf
  refine aD e ?_
  conv=>whnf
  refine(nS (.mk ak an az aks) (.mk vk vn vs vks) (hok _ hmem)).use bG (.cons (bN _) (.cons (bN _) .nil)) (.int _ _) ?_
  conv=>whnf
  refine aI (fun h5=>?_) (fun h5=>?_)
  ·have h5:cE (.mk ak an az aks) (.mk vk vn vs vks)<0:=by simpa using h5
   conv=>whnf
   refine .mk (m+1,j) [(0,0)] ⟨by simp only;omega,h2,fun p a hp ha=>?_,h4⟩ (aG _ rfl ⟨aL 0 (.cons (bN _) .nil),trivial⟩ ⟨aR nl,aR nf,aJ,aR (.int _ _),⟨_,rfl,.eq (.int _ _) ?_⟩,aR (.int _ _),trivial⟩) (by simp only;omega)
   ·simp only at hp;rcases Vm p m with hp'|hp'
    ·exact TJ (by have:=hs.get hp' ha hg;omega) h5
    ·have:p=m:=om;subst this;rw[hg] at ha;cases ha;exact h5
   ·rw[cV ⟨om,om⟩];rfl
  ·have h5:0<=cE (.mk ak an az aks) (.mk vk vn vs vks):=by simpa using h5
   conv=>whnf
   exact .mk (i,m) [(0,0)] ⟨hm1,by simp only;omega,h3,fun a ha=>by rw[hg] at ha;cases ha;exact h5⟩ (aG _ rfl ⟨aL 0 (.cons (bN _) .nil),trivial⟩ ⟨aR nl,aR nf,aJ,aR (.int _ _),aR (.int _ _),aR (.int _ _),trivial⟩) (by simp only;omega)
 ·have hij:i=j:=by simp at h;omega
  subst hij;have hf:=qS h2 h3 h4
  conv=>whnf
  refine aI (fun h5=>?_) (fun h5=>?_)
  ·have hk:i<l.length:=by rw[aB] at h5;simpa using h5
   have e:=u5 hk;obtain⟨⟨ak,an,az,aks⟩,hv⟩:∃a,a=l[i]:=⟨_,rfl⟩
   rw[←hv] at e;have hmem:a6.mk ak an az aks∈l:=by rw[hv];exact Vw hk
   have hg:l[i]? = some (a6.mk ak an az aks):=by rw[hv];exact VV hk
   rw[h5]
   conv=>whnf
   refine aD e ?_
   conv=>whnf
   refine(nS (.mk ak an az aks) (.mk vk vn vs vks) (hok _ hmem)).use bG (.cons (bN _) (.cons (bN _) .nil)) (.int _ _) ?_
   conv=>whnf
   refine aA (nt _ _) ⟨?_,rfl,rfl⟩;rw[hf,Eh hg]
  ·have hk:l.length<=i:=by rw[aB] at h5;simpa using h5
   rw[h5]
   conv=>whnf
   refine aA (nt _ _) ⟨?_,rfl,rfl⟩;rw[hf,EO hk]
theorem Q9(l:List a6)(v:a6)(hl:l.length<=4294967296)(hok:∀a∈l,gH a)(hs:lN l) :
  bB prog [] 111 [.il 4 (aQ l),bS v] (.tup [.int .i64 (cD l v).1,.bool (cD l v).2]):=by
 obtain⟨vk,vn,vs,vks⟩:=v;have nl:NN (.il 4 (aQ l)):=.il' (aO l);have nf:NN (.fn (.func 69) [] []):=.fn _ _ _ (by simp) (by simp);have nt:∀(k:Int) (b:Bool),NN (.tup [.int .i64 k,.bool b]):=fun k b=>.tup' (.cons (.int _ _) (.cons (.bool _) .nil))
 refine eX bG func111 rfl ?_
 conv=>whnf
 refine(QP l (.mk vk vn vs vks) hl hok hs).use bG (.cons nl (.cons (bN _) (.cons nf .nil))) (nt _ _) ?_
 conv=>whnf
 exact aA (nt _ _) ⟨rfl,rfl,rfl⟩
end Go.Proofs.YtioogodkiglceaaGreatDoor
namespace Go.Ax
open Go
mutual
def bF:a6->Nat
 | .mk _ _ _ kids=>1+cJ kids
def cJ:List a6->Nat
 | []=>0
 | v::r=>bF v+cJ r
end
mutual
def iM:a6->Nat
 | .mk _ _ _ kids=>fO kids+1
def fO:List a6->Nat
 | []=>0
 | v::r=>max (iM v) (fO r)
end
theorem yG:∀(l:List a6) (v:a6),cJ (l++[v])=cJ l+bF v
 | [],v=>by simp[cJ]
 | a::r,v=>by simp only[WH,cJ,yG r v];omega
theorem yY:∀(l m:List a6),cJ (l++m)=cJ l+cJ m
 | [],v=>by simp[cJ]
 | a::r,v=>by simp only[WH,cJ,yY r v];omega
theorem BK:∀(l:List a6) (v:a6),fO (l++[v])=max (fO l) (iM v)
 | [],v=>by simp[fO]
 | a::r,v=>by simp only[WH,fO,BK r v];omega
theorem EU:∀v:a6,1<=bF v
 | .mk _ _ _ kids=>by simp only[bF];omega
theorem pV{l:List a6}{k:Nat}(h:k<l.length):cJ (l.take (k+1))=cJ (l.take k)+bF l[k]:=by
 rw[List.take_succ_eq_append_getElem h,yG]
theorem IH{l:List a6}{k:Nat}(h:k<l.length):fO (l.take (k+1))=max (fO (l.take k)) (iM l[k]):=by
 rw[List.take_succ_eq_append_getElem h,BK]
theorem j9(l:List a6)(k:Nat):cJ (l.take k)<=cJ l:=by
 have:=yY (l.take k) (l.drop k);rw[List.take_append_drop] at this;omega
theorem Aa{l:List a6}{v:a6}(h:v∈l):bF v<=cJ l:=by
 induction l with
 | nil=>cases h
 | cons a r ih=>
  simp only[cJ];rcases Vg.1 h with rfl|h
  ·omega
  ·have:=ih h;omega
theorem Al(l:List a6):l.length<=cJ l:=by
 induction l with
 | nil=>simp
 | cons a r ih=>simp only[cJ,WB];have:=EU a;omega
mutual
theorem qN:∀v:a6,iM v<=bF v
 | .mk _ _ _ kids=>by simp only[iM,bF];have:=uJ kids;omega
theorem uJ:∀l:List a6,fO l<=cJ l
 | []=>by simp[fO]
 | v::r=>by simp only[fO,cJ];have:=qN v;have:=uJ r;omega
end
def wJ(c:Int):Bool:=(decide (97<=c) && decide (c<=122)) || (decide (65<=c) && decide (c<=90)) || (decide (48<=c) && decide (c<=57)) || decide (c=95)
def oB(c:Int):Bool:=decide (65<=c) && decide (c<=90)
def eP:List UInt8->Bool
 | []=>false
 | c::r=>decide (r.length<16) && oB c.toNat && r.all fun c=>wJ c.toNat
theorem Hm{c:Int}(h:oB c=true):wJ c=true:=by
 simp[oB,wJ] at *;omega
def cX(k n:Int)(s:List UInt8)(len:Nat):Bool:=
 if k=0 then decide (s=[]) && decide (len=0)
 else if k=1 then(decide (n=0) || decide (n=1)) && decide (s=[]) && decide (len=0)
 else if k=2 then decide (n=0) && decide (s=[])
 else if k=3 then decide (n=0) && eP s
 else false
def xB(k:Int)(len:Nat):Bool:=decide (len<=256) && (decide (k≠3) || decide (len<=16))
mutual
def bQ:a6->Bool
 | .mk k n s kids=>cX k n s kids.length && cO kids
def cO:List a6->Bool
 | []=>true
 | v::r=>bQ v && cO r
end
mutual
def EN:a6->Bool
 | .mk k _ _ kids=>xB k kids.length && Ct kids
def Ct:List a6->Bool
 | []=>true
 | v::r=>EN v && Ct r
end
def yQ(k:Int)(len:Nat):Bool:=(decide (k=2) && decide (256<len)) || (decide (k=3) && decide (16<len))
mutual
def oA:a6->Bool
 | .mk k _ _ kids=>yQ k kids.length || qR kids
def qR:List a6->Bool
 | []=>false
 | v::r=>oA v || qR r
end
theorem JP{k n:Int}{s:List UInt8}{len:Nat}(h:cX k n s len=true):yQ k len = !xB k len:=by
 rw[V5];unfold cX at h;simp only[yQ,xB,WN,VZ,Vt,Bool.not_eq_true',Wx,XF,Wi];repeat' split at h
 all_goals simp at h
 all_goals omega
mutual
theorem Ed:∀v:a6,bQ v=true->oA v = !EN v
 | .mk k n s kids,h=>by
  simp only[bQ,VZ] at h;rw[oA,EN,JP h.1,Cm kids h.2,Bool.not_and]
theorem Cm:∀l:List a6,cO l=true->qR l = !Ct l
 | [],_=>rfl
 | v::r,h=>by
  simp only[cO,VZ] at h;rw[qR,Ct,Ed v h.1,Cm r h.2,Bool.not_and]
end
def fL(v:a6):Int:=if bQ v=false then 1 else if oA v=true∨1024<bF v then 4 else 0
theorem oP{l:List a6}{k:Nat}(h:k<l.length):cO (l.take (k+1))=(cO (l.take k) && bQ l[k]):=by
 rw[List.take_succ_eq_append_getElem h];generalize l.take k=m
 induction m with
 | nil=>simp[cO]
 | cons a r ih=>simp only[WH,cO,ih,Xe]
theorem Jv{l:List a6}{k:Nat}(h:k<l.length):qR (l.take (k+1))=(qR (l.take k) || oA l[k]):=by
 rw[List.take_succ_eq_append_getElem h];generalize l.take k=m
 induction m with
 | nil=>simp[qR]
 | cons a r ih=>simp only[WH,qR,ih,Bool.or_assoc]
theorem jN:∀{l:List a6} {v:a6},v∈l->bQ v=false->cO l=false
 | a::r,v,h,hf=>by
  simp only[cO];rcases Vg.1 h with rfl|h
  ·rw[hf];rfl
  ·rw[jN h hf];simp
theorem Fe:∀{l:List a6} {v:a6},v∈l->oA v=true->qR l=true
 | a::r,v,h,hf=>by
  simp only[qR];rcases Vg.1 h with rfl|h
  ·rw[hf];rfl
  ·rw[Fe h hf];simp
mutual
def n9{S:Type}(st:S->a6->Nat->Bool × S):a6->Nat->S->Bool × S
 | .mk k n s kids,d,x=>match st x (.mk k n s kids) d with
  | (false,y)=>(false,y)
  | (true,y)=>pG st kids (d+1) y
def pG{S:Type}(st:S->a6->Nat->Bool × S):List a6->Nat->S->Bool × S
 | [],_,x=>(true,x)
 | v::r,d,x=>match n9 st v d x with
  | (false,y)=>(false,y)
  | (true,y)=>pG st r d y
end
def dL(x:Nat × Bool × Bool)(v:a6)(_:Nat):Bool × (Nat × Bool × Bool):=
 match v with
 | .mk k n s kids=>(x.2.1 && cX k n s kids.length,(x.1+1,x.2.1 && cX k n s kids.length,x.2.2 && xB k kids.length))
mutual
theorem EW:∀(v:a6) (d n:Nat) (sm:Bool),∃n',n9 dL v d (n,true,sm)=(bQ v,(n',bQ v,if bQ v then sm && EN v else(n9 dL v d (n,true,sm)).2.2.2))/\n'<=n+bF v/\(bQ v=true->n'=n+bF v)
 | .mk k m s kids,d,n,sm=>by
  cases hf:cX k m s kids.length with
  | false=>
   refine⟨n+1, ?_,by simp only[bF];omega,fun h=>?_⟩
   ·simp only[n9,dL,hf,XS,bQ,Xh,Wj,if_false]
   ·simp[bQ,hf] at h
  | true=>
   obtain⟨n',h1,h2,h3⟩:=CH kids (d+1) (n+1) (sm && xB k kids.length);refine⟨n', ?_,by simp only[bF];omega,fun h=>?_⟩
   ·simp only[n9,dL,hf,Bool.and_true,bQ,XI];rw[h1];cases cO kids with
    | true=>simp[EN,Xe]
    | false=>simp
   ·simp only[bQ,hf,XI] at h;rw[h3 h];simp only[bF];omega
theorem CH:∀(l:List a6) (d n:Nat) (sm:Bool),∃n',pG dL l d (n,true,sm)=(cO l,(n',cO l,if cO l then sm && Ct l else(pG dL l d (n,true,sm)).2.2.2))/\n'<=n+cJ l/\(cO l=true->n'=n+cJ l)
 | [],d,n,sm=>⟨n,by simp[pG,cO,Ct],by simp,fun _=>by simp[cJ]⟩
 | v::r,d,n,sm=>by
  obtain⟨n1,h1,h2,h3⟩:=EW v d n sm;cases hf:bQ v with
  | false=>
   rw[hf] at h1;refine⟨n1, ?_,by simp only[cJ];omega,fun h=>?_⟩
   ·simp only[pG,cO,hf,Xh,Wj,if_false];rw[h1]
   ·simp[cO,hf] at h
  | true=>
   rw[hf] at h1;simp only[if_true] at h1;obtain⟨n2,g1,g2,g3⟩:=CH r d n1 (sm && EN v);refine⟨n2, ?_,by simp only[cJ];omega,fun h=>?_⟩
   ·simp only[pG,cO,hf,XI];rw[h1];simp only;rw[g1];cases cO r with
    | true=>simp[Ct,Xe]
    | false=>simp
   ·simp only[cO,hf,XI] at h;rw[g3 h,h3 hf];simp only[cJ];omega
end
theorem Ly(v:a6):(match (n9 dL v 1 (0,true,true)).2 with|(n,good,small)=>if good=false then(1:Int) else if small=false∨1024<n then 4 else 0)=fL v:=by
 obtain⟨n',h1,h2,h3⟩:=EW v 1 0 true;rw[h1];unfold fL;cases hf:bQ v with
 | false=>simp
 | true=>
  rw[Ed v hf,h3 hf];simp
theorem iP{k n:Int}(hk:i64 k)(hn:i64 n):gH (.mk k n [] []):=by
 simp only[gH,oH];exact⟨hk,hn,by simp,by simp,trivial⟩
theorem mL{n:Int}{l:List a6}{k:Int}{s:List UInt8}(hk:i64 k)(hn:i64 n)(hs:s.length<=4294967296)(hl:l.length<=4294967296)(h:oH l):gH (.mk k n s l):=by
 simp only[gH];exact⟨hk,hn,hs,hl,h⟩
theorem Ao(l:List a6)(i:Nat)(v:a6):aQ (l.set i v)=(aQ l).set i (bS v):=by simp[fX,W2]
theorem Cz{l:List a6}{n:Nat}(h:∀v∈l,bF v<=n):cJ l<=l.length*n:=by
 induction l with
 | nil=>simp[cJ]
 | cons a r ih=>
  simp only[cJ,WB,Nat.add_mul,Wt];have h1:=h a (Vu ..);have h2:=ih fun v hv=>h v (Vn _ hv)
  omega
theorem xI{s:List UInt8}{a:UInt8}(h0:s[0]? = some a)(hl:s.length<=16)(hu:oB a.toNat=true)(hall:∀(j:Nat) (c:UInt8),s[j]? = some c->wJ c.toNat=true):eP s=true:=by
 cases s with
 | nil=>simp at h0
 | cons b r=>
  simp at h0;subst h0;simp only[eP,VZ,Vt,WW];refine⟨⟨by simp at hl;omega,hu⟩,fun c hc=>?_⟩;obtain⟨j,hj⟩:=V2 hc;exact hall (j+1) c (by simpa using hj)
theorem u9{s:List UInt8}(h:s.length<1):eP s=false:=by
 cases s with
 | nil=>rfl
 | cons b r=>simp at h
theorem oJ{s:List UInt8}(h:16<s.length):eP s=false:=by
 cases s with
 | nil=>rfl
 | cons b r=>simp only[eP];simp at h;rw[Vv om];rfl
theorem kW{s:List UInt8}{a:UInt8}(h0:s[0]? = some a)(hu:oB a.toNat=false):eP s=false:=by
 cases s with
 | nil=>rfl
 | cons b r=>simp at h0;subst h0;simp only[eP];rw[hu];simp
theorem x7{s:List UInt8}{j:Nat}{c:UInt8}(h:s[j]? = some c)(hc:wJ c.toNat=false):eP s=false:=by
 cases s with
 | nil=>rfl
 | cons b r=>
  cases j with
  | zero=>
   simp at h;subst h;refine kW (a:=b) rfl ?_;cases hu:oB b.toNat with
   | false=>rfl
   | true=>rw[Hm hu] at hc;cases hc
  | succ j=>
   simp only[eP];have:(r.all fun c=>wJ c.toNat)=false:=by
    rw[Ws];intro hall;rw[WW] at hall;have:=hall c (Ve (by simpa using h));rw[hc] at this;cases this
   rw[this];simp
mutual
def zU(g:Nat->Nat->Nat):a6->Nat->Nat->Nat
 | .mk _ _ _ kids,d,x=>uC g kids (d+1) (g x d)
def uC(g:Nat->Nat->Nat):List a6->Nat->Nat->Nat
 | [],_,x=>x
 | v::r,d,x=>uC g r d (zU g v d x)
end
theorem Ea(g:Nat->Nat->Nat):∀(l:List a6) (v:a6) (d x:Nat),uC g (l++[v]) d x=zU g v d (uC g l d x)
 | [],v,d,x=>by simp[uC]
 | a::r,v,d,x=>by simp only[WH,uC];exact Ea g r v d _
theorem MB(g:Nat->Nat->Nat){l:List a6}{k:Nat}(h:k<l.length)(d x:Nat):uC g (l.take (k+1)) d x=zU g l[k] d (uC g (l.take k) d x):=by
 rw[List.take_succ_eq_append_getElem h,Ea]
mutual
theorem Px{g:Nat->Nat->Nat}(hg:∀n d,g n d<=max (n+1) d):∀(v:a6) (d n:Nat),zU g v d n<=max n (d+iM v)+bF v
 | .mk k m s kids,d,n=>by
  simp only[zU,iM,bF];have h1:=hg n d;have h2:=Fv hg kids (d+1) (g n d);omega
theorem Fv{g:Nat->Nat->Nat}(hg:∀n d,g n d<=max (n+1) d):∀(l:List a6) (d n:Nat),uC g l d n<=max n (d+fO l)+cJ l
 | [],d,n=>by simp only[uC];omega
 | v::r,d,n=>by
  simp only[uC,fO,cJ];have h1:=Px hg v d n;have h2:=Fv hg r d (zU g v d n);omega
end
mutual
theorem IQ:∀(v:a6) (d n:Nat),zU (fun n _=>n+1) v d n=n+bF v
 | .mk k m s kids,d,n=>by simp only[zU,bF];rw[EL];omega
theorem EL:∀(l:List a6) (d n:Nat),uC (fun n _=>n+1) l d n=n+cJ l
 | [],d,n=>by simp[uC,cJ]
 | v::r,d,n=>by simp only[uC,cJ];rw[IQ,EL];omega
end
theorem Fd{S:Type}(st:S->a6->Nat->Bool × S):∀(l:List a6) (v:a6) (d:Nat) (x:S),pG st (l++[v]) d x=match pG st l d x with|(false,y)=>(false,y)|(true,y)=>n9 st v d y
 | [],v,d,x=>by
  simp only[WG,pG];cases n9 st v d x with|mk b y=>cases b<;>rfl
 | a::r,v,d,x=>by
  simp only[WH,pG];cases n9 st a d x with
  | mk b y=>cases b with
   | false=>rfl
   | true=>exact Fd st r v d y
theorem Ln{S:Type}(st:S->a6->Nat->Bool × S){l:List a6}{k:Nat}(h:k<l.length)(d:Nat)(x y:S)(hx:pG st (l.take k) d x=(true,y)):pG st (l.take (k+1)) d x=n9 st l[k] d y:=by
 rw[List.take_succ_eq_append_getElem h,Fd,hx]
theorem FK{S:Type}(st:S->a6->Nat->Bool × S):∀{l m:List a6} {d:Nat} {x y:S},pG st l d x=(false,y)->pG st (l++m) d x=(false,y)
 | [],m,d,x,y,h=>by simp[pG] at h
 | a::r,m,d,x,y,h=>by
  simp only[pG] at h;simp only[WH,pG];cases he:n9 st a d x with
  | mk b z=>
   rw[he] at h;cases b with
   | false=>simpa using h
   | true=>exact FK st h
theorem x6:∀{l:List a6} {v:a6},v∈l->iM v<=fO l
 | a::r,v,h=>by
  simp only[fO];rcases Vg.1 h with rfl|h
  ·omega
  ·have:=x6 h;omega
theorem wX:∀(l m:List a6),fO (l++m)=max (fO l) (fO m)
 | [],m=>by simp[fO]
 | a::r,m=>by simp only[WH,fO,wX r m];omega
theorem CV(l:List a6)(k:Nat):fO (l.take k)<=fO l:=by
 have:=wX (l.take k) (l.drop k);rw[List.take_append_drop] at this;omega
mutual
theorem O1:∀(v:a6) (d:Nat) (x:Nat × Bool × Bool),(n9 dL v d x).2.1<=x.1+bF v
 | .mk k n s kids,d,x=>by
  simp only[n9,dL,bF];split
  ·rename_i h;simp only[Prod.mk.injEq] at h;rw[←h.2];simp only;omega
  ·rename_i h;simp only[Prod.mk.injEq] at h;rw[←h.2];have:=B3 kids (d+1) (x.1+1,x.2.1 && cX k n s kids.length,x.2.2 && xB k kids.length);simp only at this;omega
theorem B3:∀(l:List a6) (d:Nat) (x:Nat × Bool × Bool),(pG dL l d x).2.1<=x.1+cJ l
 | [],d,x=>by simp[pG]
 | v::r,d,x=>by
  simp only[pG,cJ];have h1:=O1 v d x;split
  ·rename_i y h;rw[h] at h1;simp only at h1 ⊢;omega
  ·rename_i y h;rw[h] at h1;have:=B3 r d y;simp only at h1;omega
end
structure Nd where
 kind:Int
 name:List UInt8
 lo:Int
 hi:Int
 weights:List Int
 labels:List (List UInt8)
 values:List a6
 kids:List Int
 value:a6
def jB(l:List (List UInt8)):List AV:=l.map AV.str
def bW(x:Nd):AV:=
 match x.value with
 | .mk k n s ks=>.agg [.int .i64 x.kind,.str x.name,.int .i64 x.lo,.int .i64 x.hi,.il 1 (aS x.weights),.il 1 (jB x.labels),.il 4 (aQ x.values),.il 1 (aS x.kids),.int .i64 k,.int .i64 n,.str s,.il 4 (aQ ks)]
def aW(l:List Nd):List AV:=l.map bW
theorem dV(l:List (List UInt8)):jZ (jB l):=fun a ha=>by
 obtain⟨n,_,rfl⟩:=Vq.1 ha;exact .str _
theorem bE(l:List (List UInt8)):(jB l).length=l.length:=by rw[jB,We]
theorem yN(l:List (List UInt8))(i:Nat):(jB l)[i]? = (l[i]?).map AV.str:=by rw[jB,Vy]
theorem aV(x:Nd):NN (bW x):=by
 unfold bW;split;exact .agg' (.cons (.int _ _) (.cons (.str _) (.cons (.int _ _) (.cons (.int _ _) (.cons (.il' (aM _)) (.cons (.il' (dV _)) (.cons (.il' (aO _)) (.cons (.il' (aM _)) (.cons (.int _ _) (.cons (.int _ _) (.cons (.str _) (.cons (.il' (aO _)) .nil))))))))))))
theorem aY(l:List Nd):jZ (aW l):=fun a ha=>by
 obtain⟨n,_,rfl⟩:=Vq.1 ha;exact aV n
theorem bD(l:List Nd):(aW l).length=l.length:=by rw[aW,We]
theorem gK(l:List Nd)(i:Nat):(aW l)[i]? = (l[i]?).map bW:=by rw[aW,Vy]
structure n4(x:Nd):Prop where
 kind:i64 x.kind
 name:x.name.length<=4294967296
 lo:i64 x.lo
 hi:i64 x.hi
 weights:x.weights.length<=4294967296
 weightsI:∀w∈x.weights,i64 w
 labels:x.labels.length<=4294967296
 labelsI:∀w∈x.labels,w.length<=4294967296
 values:x.values.length<=4294967296
 valuesI:∀v∈x.values,gH v/\bF v<=4294967296
 kids:x.kids.length<=4294967296
 kidsI:∀k∈x.kids,i64 k
 value:gH x.value
 valueS:bF x.value<=4294967296
def zN:a6->Bool
 | .mk k n s ks=>decide (k=0) && decide (n=0) && decide (s=[]) && decide (ks.length=0)
def gY(x:Nd):Bool:=
 (decide (x.kind=0) || zN x.value) && (decide (x.kind=1) || (decide (x.lo=0) && decide (x.hi=0))) && (decide (x.kind=3) || decide (x.name=[])) &&
 (decide (x.kind=2) || (decide (x.weights.length=0) && decide (x.labels.length=0))) && (decide (x.kind=4) || decide (x.values.length=0)) && ((decide (x.kind≠0) && decide (x.kind≠1)) || decide (x.kids.length=0))
def eE:List a6->Bool
 | a::b::r=>decide (cE a b<0) && eE (b::r)
 | _=>true
def mG(i:Int)(l:List Int):Bool:=l.all fun k=>decide (0<=k) && decide (k<i)
def cP(i:Int)(x:Nd):Bool:=
 gY x && (decide (0<=x.kind) && decide (x.kind<=4)) && mG i x.kids &&
 (decide (x.kind≠2) || (decide (1<=x.kids.length) && decide (x.kids.length<=256) && decide (x.weights.length=x.kids.length) && (decide (x.labels.length=0) || decide (x.labels.length=x.kids.length)))) &&
 (decide (x.kind≠3) || (decide (x.kids.length<=256) && (decide (x.name=[]) || (eP x.name && decide (x.kids.length<=16))))) &&
 (decide (x.kind≠4) || decide (x.kids.length=x.values.length+1)) && eE x.values
def dX(x:Nd):Bool:=
 decide (x.lo<=x.hi) && decide (-4611686018427387904<=x.lo) && decide (x.hi<=4611686018427387904) && decide (x.hi<x.lo+1099511627776) && x.weights.all fun w=>decide (1<=w) && decide (w<=1000)
def eM:List a6->Int
 | []=>0
 | v::r=>if fL v≠0 then fL v else eM r
def mT(x:Nd):List a6:=(if x.kind=0 then [x.value] else [])++x.values
def eI(i:Int)(x:Nd):Int:=
 if cP i x=false then 1 else if eM (mT x)≠0 then eM (mT x) else if dX x=false then 5 else 0
def dR(l:List Int)(k:Int):Int:=l.getD k.toNat 0
def fB(before kids:List Int):Int:=kids.foldl (fun s k=>s+dR before k) 0
def cQ(before kids:List Int):Int:=kids.foldl (fun s k=>max s (dR before k)) 0
def dU(x:Nd):List Int:=if x.kind=2 then x.kids else x.kids.drop 1
def d9(before:List Int)(x:Nd):Int:=
 if x.kind=0 then 0 else if x.kind=1 then 1 else if x.kind=3 then fB before x.kids else if x.kind=2 then 1+cQ before (dU x) else dR before (x.kids.getD 0 0)+cQ before (dU x)
def iI(before:List Int)(x:Nd):Int:=
 if x.kind=0 then bF x.value else if x.kind=1 then 1 else if x.kind=3 then 1+fB before x.kids else cQ before (dU x)
structure gW where
 vals:List a6
 many:Bool
def dP(name:List UInt8)(kids:List a6):a6:=if name=[] then .mk 2 0 [] kids else .mk 3 0 name kids
def dF(l:List gW)(k:Int):gW:=l.getD k.toNat ⟨[],false⟩
def hZ(lo hi:Int):List a6:=(List.range (hi+1-lo).toNat).map fun i:Nat=>.mk 0 (lo+(i:Int)) [] []
def bL(before:List gW)(x:List a6 × Bool)(k:Int):List a6 × Bool:=
 (eR (x.1++(dF before k).vals),x.2 || (dF before k).many || decide (1024<(eR (x.1++(dF before k).vals)).length))
def jW(before:List gW)(kids:List Int):gW:=
 if (kids.foldl (bL before) ([],false)).2 then⟨[],true⟩ else⟨(kids.foldl (bL before) ([],false)).1,false⟩
def gO(rows:List (List a6))(l:List a6):List (List a6):=rows.flatMap fun r=>l.map fun v=>r++[v]
def eJ(before:List gW):List Int->List (List a6)->Option (List (List a6))
 | [],rows=>some rows
 | k::r,rows=>if (dF before k).many=true∨1024<rows.length*(dF before k).vals.length then none else eJ before r (gO rows (dF before k).vals)
def o8(before:List gW)(x:Nd):gW:=
 match eJ before x.kids [[]] with
 | none=>⟨[],true⟩
 | some rows=>⟨eR (rows.map (dP x.name)),false⟩
def cU(x:Nd)(before:List gW):gW:=
 if x.kind=0 then⟨[x.value],false⟩
 else if x.kind=1 then(if 1024<=x.hi-x.lo then⟨[],true⟩ else⟨hZ x.lo x.hi,false⟩)
 else if x.kind=3 then o8 before x
 else jW before (if x.kind=4 then x.kids.drop 1 else x.kids)
def aT(nodes:List Nd):List gW:=nodes.foldl (fun out x=>out++[cU x out]) []
def dB:List a6->List a6->Bool
 | [],[]=>true
 | a::l,b::m=>decide (cE a b=0) && dB l m
 | _,_=>false
def iJ(nodes:List Nd)(x:Nd):Int:=
 let l:=dF (aT (nodes.take ((x.kids.getD 0 0).toNat+1))) (x.kids.getD 0 0)
 if l.many=true then 4 else if dB l.vals x.values=true then 0 else 1
def fV(before:List Nd)(ls ss:List Int)(x:Nd):Int:=
 if eI before.length x≠0 then eI before.length x
 else if 256<d9 ls x∨1024<iI ss x then 4
 else if x.kind=4 then iJ before x else 0
def aX(nodes:List Nd):List Int:=nodes.foldl (fun ls x=>ls++[d9 ls x]) []
def b9(nodes:List Nd):List Int:=nodes.foldl (fun ls x=>ls++[iI ls x]) []
def bU:List Nd->List Nd->Int
 | _,[]=>0
 | before,x::r=>if fV before (aX before) (b9 before) x≠0 then fV before (aX before) (b9 before) x else bU (before++[x]) r
def cL(nodes:List Nd):Int:=if 4096<nodes.length then 4 else bU [] nodes
theorem fT:∀(b l:List Nd) (x:Nd),bU b l=0->bU b (l++[x])=fV (b++l) (aX (b++l)) (b9 (b++l)) x
 | b,[],x,h=>by
  simp only[WG,bU,Wg];split
  ·rfl
  ·rename_i h1;simpa using (Eq.symm (Decidable.not_not.1 h1))
 | b,y::r,x,h=>by
  simp only[WH,bU] at h ⊢;split at h
  ·rename_i h1;exact absurd h h1
  ·rename_i h1;rw[VY h1,fT (b++[y]) r x h];simp
theorem iG(l:List Nd)(x:Nd):aX (l++[x])=aX l++[d9 (aX l) x]:=by simp[aX]
theorem nG(l:List Nd)(x:Nd):b9 (l++[x])=b9 l++[iI (b9 l) x]:=by simp[b9]
theorem jI(l:List Nd)(x:Nd):aT (l++[x])=aT l++[cU x (aT l)]:=by simp[aT]
def rY(n most:Int):Int:=(if n<0 then -(n+1) else n).tmod most
def mE(l:List Int)(i most:Int):Int:=if i<0∨(l.length:Int)<=i then 0 else rY (l.getD i.toNat 0) most
theorem D3{n most:Int}(h:1<=most):0<=rY n most/\rY n most<most:=by
 unfold rY;have h0:0<=(if n<0 then -(n+1) else n):=by split<;>omega
 exact⟨W5 _ h0,Wp _ om⟩
theorem lE{l:List Int}{i most:Int}(h:1<=most):0<=mE l i most/\mE l i most<most:=by
 unfold mE;split
 ·omega
 ·exact D3 h
def wM(k:Int):a6:=
 if k.tmod 4=0 then .mk 0 ((k.tdiv 4).tmod 9-4) [] []
 else if k.tmod 4=1 then .mk 1 ((k.tdiv 4).tmod 2) [] []
 else if k.tmod 4=2 then .mk 3 0 (([[76,101,97,102],[82,101,100],[88]]:List (List UInt8)).getD ((k.tdiv 4).tmod 3).toNat []) []
 else .mk 2 0 [] [.mk 0 ((k.tdiv 4).tmod 3) [] []]
def kidI(l:List Int)(i j:Int):Int:=
 if (mE l (3*i+j+2) 1000000).tmod 3=0 then((mE l (3*i+j+2) 1000000).tdiv 3).tmod i else max 0 (i-1-((mE l (3*i+j+2) 1000000).tdiv 3).tmod 3)
theorem kP:∀{l:List a6},(∀(j:Nat) (a b:a6),l[j]? = some a->l[j+1]? = some b->cE a b<0)->eE l=true
 | [],_=>rfl
 | [a],_=>rfl
 | a::b::r,h=>by
  simp only[eE,VZ,Vt];exact⟨h 0 a b rfl rfl,kP fun j x y hx hy=>h (j+1) x y (by simpa using hx) (by simpa using hy)⟩
theorem kO:∀{l:List a6},eE l=true->∀(j:Nat) (a b:a6),l[j]? = some a->l[j+1]? = some b->cE a b<0
 | [],_,j,a,b,h1,h2=>by simp at h1
 | [x],_,j,a,b,h1,h2=>by simp at h2
 | x::y::r,h,j,a,b,h1,h2=>by
  simp only[eE,VZ,Vt] at h;cases j with
  | zero=>simp at h1 h2;subst h1 h2;exact h.1
  | succ j=>exact kO h.2 j a b (by simpa using h1) (by simpa using h2)
theorem eU{i:Int}{l:List Int}:mG i l=true↔∀(j:Nat) (k:Int),l[j]? = some k->0<=k/\k<i:=by
 simp only[mG,WW,VZ,Vt];constructor
 ·intro h j k hj;exact h k (Ve hj)
 ·intro h k hk;obtain⟨j,hj⟩:=V2 hk;exact h j k hj
theorem DM:∀{l m:List a6},l.length≠m.length->dB l m=false
 | [],[],h=>absurd rfl h
 | [],_::_,_=>rfl
 | _::_,[],_=>rfl
 | a::l,b::m,h=>by
  rw[dB,DM (l:=l) (m:=m) (by simpa using h),XS]
theorem wF{b l:List Int}{k:Nat}(h:k<l.length):fB b (l.take (k+1))=fB b (l.take k)+dR b l[k]:=by
 unfold fB;rw[List.take_succ_eq_append_getElem h,WR];rfl
theorem rZ{b l:List Int}{k:Nat}(h:k<l.length):cQ b (l.take (k+1))=max (cQ b (l.take k)) (dR b l[k]):=by
 unfold cQ;rw[List.take_succ_eq_append_getElem h,WR];rfl
theorem pR{b l:List Int}{k:Nat}(h:k<l.length)(hk:0<k):cQ b ((l.take (k+1)).drop 1)=max (cQ b ((l.take k).drop 1)) (dR b l[k]):=by
 rw[List.take_succ_eq_append_getElem h,XM (by simp;omega)];simp[cQ]
theorem mX{b:List Int}{M:Int}(hM:0<=M)(h:∀x∈b,0<=x/\x<=M)(q:Int):0<=dR b q/\dR b q<=M:=by
 unfold dR;rw[VW];cases hq:b[q.toNat]? with
 | none=>simp;omega
 | some x=>exact h x (Ve hq)
theorem oW(b:List Int):∀(l:List Int) (s:Int),l.foldl (fun s k=>s+dR b k) s=s+fB b l
 | [],s=>by simp[fB]
 | a::r,s=>by
  simp only[V1,fB];rw[oW b r,oW b r (0+dR b a)];simp[fB];omega
theorem jA{b:List Int}{M:Int}(hM:0<=M)(h:∀x∈b,0<=x/\x<=M):∀l:List Int,0<=fB b l/\fB b l<=l.length*M
 | []=>by simp[fB]
 | a::r=>by
  have h1:=jA hM h r;have h2:=mX hM h a;have e:fB b (a::r)=dR b a+fB b r:=by simp only[fB,V1];rw[oW b r];simp[fB]
  rw[e];simp only[WB];have:((r.length+1:Nat):Int)*M=r.length*M+M:=by rw[Int.natCast_add,Int.add_mul];simp
  omega
theorem FP(b:List Int){M:Int}(h:∀q,0<=dR b q/\dR b q<=M):∀(l:List Int) (s:Int),0<=s->s<=M->0<=l.foldl (fun s k=>max s (dR b k)) s/\l.foldl (fun s k=>max s (dR b k)) s<=M
 | [],s,h1,h2=>⟨h1,h2⟩
 | a::r,s,h1,h2=>by
  have:=h a;simp only[V1];exact FP b h r (max s (dR b a)) om om
theorem gP{b:List Int}{M:Int}(hM:0<=M)(h:∀x∈b,0<=x/\x<=M)(l:List Int):0<=cQ b l/\cQ b l<=M:=
 FP b (mX hM h) l 0 om hM
theorem aH.useApp{P:Program}{Γ:List (Nat × AV)}{F:FuncId}{args args':List AV}{mem:aP}{nx:Nat}{t:TypeId}{sz:Nat}{xs:List AV}{R:Nat->List AV->Prop}{K:AV->aP->Nat->Prop}(hΓ:∀p∈Γ,NN p.2)
  (h:aH P Γ F args' [(0,.row t sz xs)] 1 fun r m _=>∃(len:Nat) (ys:List AV),r = .sl 1 0 len/\m=[(1,.row t sz ys)]/\jZ ys/\R len ys) (g:Nat) (hg:lk mem g=some (.row t sz xs)) (hx:jZ xs) (hargs:kU [(g,.row t sz xs)] [(g,0)] args args')
  (hk:∀len ys,R len ys->Dl g mem fun rest=>K (.sl nx 0 len) ((nx,.row t sz ys)::rest) (nx+1)):aH P Γ F args mem nx K:=by
 refine⟨fun X D ρ w vs hD hm hv=>?_⟩;refine(aH.use (K:=K) (nx:=nx) hΓ h [(g,0)] (m1:=[(g,.row t sz xs)]) (rest:=drop g mem) ⟨fun p hp=>?_,fun p hp=>dI hp,fun p hp=>?_,fun p hp q hq=>?_,by simp⟩ (kS hm.nod) hargs (fun p hp=>?_) (by simp) (lX (by rfl)) (fun id i hl=>?_) ?_).run X D ρ w vs hD hm hv
 ·simp at hp;subst hp;exact bI hg
 ·by_cases hpg:p.1=g
  ·left;have:=rF hm.nod hp (bI hg) hpg;rw[this];simp
  ·exact .inr (vF hp hpg)
 ·simp at hp;subst hp;exact Ne.symm (rL hm.nod hq)
 ·simp at hp;subst hp;exact .inl ⟨g,t,sz,xs,xs,rfl,by simp[lk],by simp[lk],.same hx⟩
 ·have:=bI hl;simp at this;omega
 ·rintro r m n ⟨len,ys,rfl,rfl,hn,hR⟩ _;refine⟨[(1,nx)],.sl nx 0 len,[(nx,.row t sz ys)],nx+1,XQ _,.sl 1 nx 0 len (by simp[lk]),fun p hp=>?_,by simp,lX (by rfl),fun i id hl=>?_,fun p hp q hq=>?_,vV.1 (hk len ys hR)⟩
  ·simp at hp;subst hp;exact .inl ⟨1,t,sz,ys,ys,rfl,by simp[lk],by simp[lk],.same hn⟩
  ·have:=bI hl;simp at this;obtain⟨rfl,rfl⟩:=this;exact .inr ⟨Vh _,Vh _,WQ _⟩
  ·simp at hp;subst hp;have:=hD _ (hm.low q (dI hq));simp only;omega
def mS(x:gW):AV:=.agg [.il 4 (aQ x.vals),.bool x.many]
def cC(l:List gW):List AV:=l.map mS
theorem oK(x:gW):NN (mS x):=.agg' (.cons (.il' (aO _)) (.cons (.bool _) .nil))
theorem bO(l:List gW):jZ (cC l):=fun a ha=>by
 obtain⟨n,_,rfl⟩:=Vq.1 ha;exact oK n
theorem rG(l:List gW):(cC l).length=l.length:=by rw[cC,We]
theorem nE(l:List gW)(i:Nat):(cC l)[i]? = (l[i]?).map mS:=by rw[cC,Vy]
def rR(lo:Int)(k:Nat):List a6:=(List.range k).map fun i:Nat=>.mk 0 (lo+(i:Int)) [] []
theorem BQ(lo:Int)(k:Nat):rR lo (k+1)=rR lo k++[.mk 0 (lo+(k:Int)) [] []]:=by simp[rR,X9]
theorem EE(lo:Int)(k:Nat):(rR lo k).length=k:=by simp[rR]
theorem aH.useNew{P:Program}{Γ:List (Nat × AV)}{F:FuncId}{args:List AV}{mem:aP}{nx:Nat}{t:TypeId}{sz len:Nat}{ys:List AV}{K:AV->aP->Nat->Prop}(hΓ:∀p∈Γ,NN p.2)
  (h:aH P Γ F args [] 0 fun r m n=>r = .sl 0 0 len/\m=[(0,.row t sz ys)]/\n=1) (ha:jZ args) (hn:jZ ys) (hk:K (.sl nx 0 len) ((nx,.row t sz ys)::mem) (nx+1)):aH P Γ F args mem nx K:=by
 refine⟨fun X D ρ w vs hD hm hv=>?_⟩;refine(aH.use (K:=K) (nx:=nx) hΓ h [] (m1:=[]) (rest:=mem) ⟨(fun p hp=>by cases hp),fun p hp=>hp,fun p hp=>.inr hp,(fun p hp=>by cases hp),by simp⟩ hm.nod (CU ha) (fun p hp=>by cases hp) (by simp) (fun i j k h=>by simp[lk] at h) (fun id i h=>by simp[lk] at h) ?_).run X D ρ w vs hD hm hv;rintro r m n ⟨rfl,rfl,rfl⟩ _;refine⟨[(0,nx)],.sl nx 0 len,[(nx,.row t sz ys)],nx+1,XQ _,.sl 0 nx 0 len (by simp[lk]),fun p hp=>?_,by simp,lX (by rfl),fun i id hl=>?_,fun p hp q hq=>?_,hk⟩
 ·simp at hp;subst hp;exact .inl ⟨0,t,sz,ys,ys,rfl,by simp[lk],by simp[lk],.same hn⟩
 ·have:=bI hl;simp at this;obtain⟨rfl,rfl⟩:=this;exact .inr ⟨Wb _,Vh _,WQ _⟩
 ·simp at hp;subst hp;have:=hD _ (hm.low q hq);simp only;omega
theorem vL{bs:List gW}(hb:∀b∈bs,b.vals.length<=1024/\∀v∈b.vals,gH v):∀(l:List Int) (a:List a6 × Bool) (n:Nat),a.1.length<=n->(∀v∈a.1,gH v) ->
  (l.foldl (bL bs) a).1.length<=n+l.length*1024/\∀v∈(l.foldl (bL bs) a).1,gH v
 | [],a,n,h1,h2=>⟨by simpa using h1,h2⟩
 | q::r,a,n,h1,h2=>by
  have hq:(dF bs q).vals.length<=1024/\∀v∈(dF bs q).vals,gH v:=by
   unfold dF;rw[VW];cases hc:bs[q.toNat]? with
   | none=>simp
   | some b=>exact hb b (Ve hc)
  have hs:=rJ (a.1++(dF bs q).vals);simp only[Vf] at hs;have:=vL hb r (bL bs a q) (n+1024) (by simp only[bL];omega) (fun v hv=>by
   have:=rA hv;rcases Vs.1 this with h|h
   ·exact h2 v h
   ·exact hq.2 v h)
  simp only[V1,WB];refine⟨by have:=this.1;omega,this.2⟩
theorem Jj{α β:Type}(f:β->α->β){l:List α}{k:Nat}(h:k<l.length)(a:β):(l.take (k+1)).foldl f a=f ((l.take k).foldl f a) l[k]:=by
 rw[List.take_succ_eq_append_getElem h,WR];rfl
theorem JH{α β:Type}(f:β->α->β){l:List α}{k:Nat}(h:k<l.length)(hk:0<k)(a:β):((l.take (k+1)).drop 1).foldl f a=f (((l.take k).drop 1).foldl f a) l[k]:=by
 rw[List.take_succ_eq_append_getElem h,XM (by simp;omega),WR];rfl
theorem dT{α:Type}{P:List α->Prop}(h0:P [])(h1:∀(l:List α) (x:α),P l->P (l++[x]))(l:List α):P l:=by
 rw[←List.reverse_reverse l]
 induction l.reverse with
 | nil=>exact h0
 | cons a r ih=>rw[Xd];exact h1 _ _ ih
structure lF(i:Nat)(x:Nd):Prop where
 ok:n4 x
 kind:0<=x.kind/\x.kind<=4
 kids:∀(j:Nat) (k:Int),x.kids[j]? = some k->0<=k/\k<i
 klen:x.kids.length<=65536
 num:dX x=true
def FA(bs:List gW):Prop:=∀b∈bs,b.vals.length<=1024/\∀v∈b.vals,gH v
theorem dD{x:Nd}(h:dX x=true):x.lo<=x.hi/\-4611686018427387904<=x.lo/\x.hi<=4611686018427387904/\x.hi<x.lo+1099511627776:=by
 unfold dX at h;simp only[VZ,Vt] at h;exact⟨h.1.1.1.1,h.1.1.1.2,h.1.1.2,h.1.2⟩
theorem vW{rows:List (List a6)}{l:List a6}{r:List a6}(h:r∈gO rows l):∃r'∈rows,∃v∈l,r=r'++[v]:=by
 simp only[gO,X6,Vq] at h;obtain⟨r',h1,v,h2,rfl⟩:=h;exact⟨r',h1,v,h2,rfl⟩
theorem vK(l:List a6):∀rows:List (List a6),(gO rows l).length=rows.length*l.length
 | []=>by simp[gO]
 | r::rs=>by
  have:=vK l rs;simp only[gO,W4,Vf,We,WB,Nat.add_mul,Wt] at this ⊢;omega
theorem uW{bs:List gW}(hb:FA bs)(k:Int):(dF bs k).vals.length<=1024/\∀v∈(dF bs k).vals,gH v:=by
 unfold dF;rw[VW];cases h:bs[k.toNat]? with
 | none=>simp
 | some b=>exact hb b (Ve h)
theorem CP{bs:List gW}(hb:FA bs):∀(kids:List Int) (rows out:List (List a6)) (n:Nat),rows.length<=1024->(∀r∈rows,r.length<=n/\∀v∈r,gH v)->eJ bs kids rows=some out->out.length<=1024/\∀r∈out,r.length<=n+kids.length/\∀v∈r,gH v
 | [],rows,out,n,h1,h2,h=>by
  simp only[eJ] at h;cases h;exact⟨h1,fun r hr=>⟨by simpa using (h2 r hr).1,(h2 r hr).2⟩⟩
 | k::ks,rows,out,n,h1,h2,h=>by
  simp only[eJ] at h;split at h
  ·cases h
  ·rename_i hc;rw[not_or] at hc;have hg:=uW hb k;obtain⟨a,b⟩:=CP hb ks _ out (n+1) (by rw[vK];omega) (fun r hr=>by
    obtain⟨r',h3,v,h4,rfl⟩:=vW hr;refine⟨by have:=(h2 r' h3).1;simp;omega,fun u hu=>?_⟩;rcases Vs.1 hu with hu|hu
    ·exact(h2 r' h3).2 u hu
    ·simp at hu;rw[hu];exact hg.2 v h4) h
   exact⟨a,fun r hr=>⟨by have:=(b r hr).1;simp;omega,(b r hr).2⟩⟩
theorem LI{name:List UInt8}(hn:name.length<=4294967296){r:List a6}(hr:r.length<=4294967296)(ho:∀v∈r,gH v):gH (dP name r):=by
 unfold dP;split
 ·exact mL ⟨om,om⟩ ⟨om,om⟩ (by simp) hr (p5 ho)
 ·exact mL ⟨om,om⟩ ⟨om,om⟩ hn hr (p5 ho)
theorem E6{bs:List gW}:∀(l:List Int) (a:List a6 × Bool),(a.2=false->a.1.length<=1024)->(l.foldl (bL bs) a).2=false->(l.foldl (bL bs) a).1.length<=1024
 | [],a,h,h2=>h h2
 | k::r,a,h,h2=>by
  refine E6 r (bL bs a k) (fun h3=>?_) h2;simp only[bL,XF,Wi] at h3 ⊢;omega
theorem JN{x:Nd}{i:Nat}{bs:List gW}(hx:lF i x)(hb:FA bs):(cU x bs).vals.length<=1024/\∀v∈(cU x bs).vals,gH v:=by
 unfold cU;have hnum:=dD hx.num;split
 ·exact⟨by simp,fun v hv=>by simp at hv;rw[hv];exact hx.ok.value⟩
 ·split
  ·split
   ·simp
   ·refine⟨by simp[hZ];omega,fun v hv=>?_⟩;simp only[hZ,Vq,XA] at hv;obtain⟨j,hj,rfl⟩:=hv;exact iP ⟨om,om⟩ ⟨om,om⟩
  ·split
   ·unfold o8;split
    ·simp
    ·rename_i rows hr;obtain⟨h1,h2⟩:=CP hb x.kids [[]] rows 0 (by simp) (by simp) hr;refine⟨by have:=rJ (rows.map (dP x.name));simp at this ⊢;omega,fun v hv=>?_⟩;have:=rA hv;obtain⟨r,hr2,rfl⟩:=Vq.1 this;have h3:=h2 r hr2;have:=hx.klen;exact LI hx.ok.name om h3.2
   ·generalize (if x.kind=4 then x.kids.drop 1 else x.kids)=ks;unfold jW;split
    ·simp
    ·rename_i hm;have hm:(ks.foldl (bL bs) ([],false)).2=false:=by simpa using hm
     exact⟨E6 _ _ (by simp) hm,(vL hb _ ([],false) 0 (by simp) (by simp)).2⟩
theorem fU(l:List Nd):(aT l).length=l.length:=by
 refine dT (P:=fun l=>(aT l).length=l.length) rfl (fun l x ih=>?_) l;rw[jI];simp[ih]
theorem nR(l:List Nd):(∀(i:Nat) (x:Nd),l[i]? = some x->lF i x)->FA (aT l):=by
 refine dT (P:=fun l=>(∀(i:Nat) (x:Nd),l[i]? = some x->lF i x)->FA (aT l)) (fun _ b hb=>by simp[aT] at hb) (fun l x ih h=>?_) l;have h1:=ih fun i y hy=>h i y (by
  have:=(VX.1 hy).1;rw[Vp this];exact hy)
 have h2:=h l.length x (by simp);rw[jI];intro b hb;rcases Vs.1 hb with hb|hb
 ·exact h1 b hb
 ·simp at hb;rw[hb];exact JN h2 h1
theorem C0:∀(b l r:List Nd),bU b l=0->bU b (l++r)=bU (b++l) r
 | b,[],r,_=>by simp
 | b,y::l,r,h=>by
  simp only[WH,bU] at h ⊢;split at h
  ·rename_i h1;exact absurd h h1
  ·rename_i h1;rw[VY h1,C0 (b++[y]) l r h];simp
theorem jG{l r:List Nd}(h:bU [] (l++r)=0):bU [] l=0:=by
 have key:∀(l b:List Nd),bU b (l++r)=0->bU b l=0:=by
  intro l
  induction l with
  | nil=>intro b _;rfl
  | cons y l ih=>
   intro b h;simp only[WH,bU] at h ⊢;split at h
   ·rename_i h1;exact absurd h h1
   ·rename_i h1;rw[VY h1];exact ih _ h
 exact key l [] h
theorem A1{l r:List Nd}{x:Nd}(h:bU [] l=0)(hs:fV l (aX l) (b9 l) x≠0):bU [] (l++x::r)=fV l (aX l) (b9 l) x:=by
 rw[C0 _ _ _ h];simp only[WG,bU];rw[Vb hs]
theorem lH:∀{l m:List a6},dB l m=true->l.length=m.length
 | [],[],_=>rfl
 | a::l,b::m,h=>by
  simp only[dB,VZ] at h;simp[lH h.2]
 | [],b::m,h=>by simp[dB] at h
 | a::l,[],h=>by simp[dB] at h
structure F4(i:Nat)(x:Nd):Prop where
 kind:0<=x.kind/\x.kind<=4
 kids:∀(j:Nat) (k:Int),x.kids[j]? = some k->0<=k/\k<i
 num:dX x=true
 klen:x.kind≠4->x.kids.length<=256
 bind:x.kind=4->x.kids.length=x.values.length+1
theorem kK{i:Nat}{x:Nd}(h:eI i x=0):F4 i x:=by
 unfold eI at h;split at h
 ·omega
 ·rename_i hf;split at h
  ·rename_i h1;exact absurd h h1
  ·split at h
   ·omega
   ·rename_i hn;have hn:dX x=true:=by simpa using hn
    have hf:cP i x=true:=by simpa using hf
    unfold cP at hf;simp only[VZ,WN,Vt] at hf;obtain⟨⟨⟨⟨⟨⟨hu,hk⟩,hki⟩,h2⟩,h3⟩,h4⟩,_⟩:=hf;refine⟨hk,eU.1 hki,hn,fun hne=>?_,fun he=>om⟩;unfold gY at hu;simp only[VZ,WN,Vt] at hu;rcases(show x.kind=0∨x.kind=1∨x.kind=2∨x.kind=3 by omega) with e|e|e|e
    ·have:=hu.2;omega
    ·have:=hu.2;omega
    ·rcases h2 with h2|h2
     ·omega
     ·exact h2.1.1.2
    ·rcases h3 with h3|h3
     ·omega
     ·exact h3.1
theorem f7{before:List Nd}{ls ss:List Int}{x:Nd}(h:fV before ls ss x=0):eI before.length x=0/\d9 ls x<=256/\iI ss x<=1024/\(x.kind=4->iJ before x=0):=by
 unfold fV at h;split at h
 ·rename_i h1;exact absurd h h1
 ·rename_i h1;split at h
  ·omega
  ·rename_i h2;rw[not_or] at h2;refine⟨by simpa using h1,om,om,fun e=>?_⟩;rw[Vb e] at h;exact h
theorem lU{α:Type}{l:List α}{n i:Nat}{x:α}(h:(l.take n)[i]? = some x):l[i]? = some x/\i<n:=by
 rw[WA] at h;split at h
 ·rename_i hi;exact⟨h,hi⟩
 ·cases h
theorem Le{before:List Nd}{x:Nd}(hg:∀(j:Nat) (y:Nd),before[j]? = some y->lF j y)(h:iJ before x=0):x.values.length<=1024:=by
 unfold iJ at h;simp only at h;split at h
 ·omega
 ·split at h
  ·rename_i hs;have:=lH hs;have hgl:=nR (before.take ((x.kids.getD 0 0).toNat+1)) fun i y hy=>hg i y (lU hy).1
   have:=(uW hgl (x.kids.getD 0 0)).1;omega
  ·omega
theorem MF{before:List Nd}{ls ss:List Int}{x:Nd}(hg:∀(j:Nat) (y:Nd),before[j]? = some y->lF j y)(ho:n4 x)(h:fV before ls ss x=0):lF before.length x:=by
 obtain⟨h1,h2,h3,h4⟩:=f7 h;have hn:=kK h1;refine⟨ho,hn.kind,hn.kids, ?_,hn.num⟩;by_cases e:x.kind=4
 ·have:=hn.bind e;have:=Le hg (h4 e);omega
 ·have:=hn.klen e;omega
theorem mW(ns:List Nd)(ho:∀x∈ns,n4 x)(h:bU [] ns=0):∀(j:Nat) (x:Nd),ns[j]? = some x->lF j x:=by
 refine dT (P:=fun ns=>(∀x∈ns,n4 x)->bU [] ns=0->∀(j:Nat) (x:Nd),ns[j]? = some x->lF j x) (fun _ _ j x hx=>by simp at hx) (fun l x ih ho h=>?_) ns ho h;have h1:=jG h;have ih:=ih (fun y hy=>ho y (V8 _ hy)) h1;have hs:=fT [] l x h1;rw[h] at hs;simp only[WG] at hs;have hg:=MF ih (ho x (by simp)) hs.symm;intro j y hy;rcases Vm j l.length with hj|hj
 ·rw[Vp hj] at hy;exact ih j y hy
 ·rw[Vx hj] at hy;have e:j-l.length=0:=by
   have:=(VX.1 hy).1;simp at this;omega
  rw[e] at hy;simp at hy;subst hy;obtain rfl:j=l.length:=om;exact hg
theorem Ia{ls:List Int}{x:Nd}(h:∀y∈ls,0<=y/\y<=1024):0<=d9 ls x:=by
 have h1:=(jA om h x.kids).1;have h2:=(gP om h (dU x)).1;have h3:=(mX om h (x.kids.getD 0 0)).1;unfold d9;split
 ·omega
 ·split
  ·omega
  ·split
   ·exact h1
   ·split
    ·omega
    ·omega
theorem IF{ls:List Int}{x:Nd}(h:∀y∈ls,0<=y/\y<=1024):0<=iI ls x:=by
 have h1:=(jA om h x.kids).1;have h2:=(gP om h (dU x)).1;unfold iI;split
 ·omega
 ·split
  ·omega
  ·split
   ·omega
   ·exact h2
theorem i6(ns:List Nd)(h:bU [] ns=0):(∀y∈aX ns,0<=y/\y<=1024)/\(∀y∈b9 ns,0<=y/\y<=1024):=by
 refine dT (P:=fun ns=>bU [] ns=0->(∀y∈aX ns,0<=y/\y<=1024)/\(∀y∈b9 ns,0<=y/\y<=1024)) (fun _=>by simp[aX,b9]) (fun l x ih h=>?_) ns h;have h1:=jG h;obtain⟨i1,i2⟩:=ih h1;have hs:=fT [] l x h1;rw[h] at hs;simp only[WG] at hs;obtain⟨_,h2,h3,_⟩:=f7 hs.symm;rw[iG,nG];have n1:=Ia (x:=x) i1;have n2:=IF (x:=x) i2;constructor
 ·intro y hy;rcases Vs.1 hy with hy|hy
  ·exact i1 y hy
  ·simp at hy;subst hy;omega
 ·intro y hy;rcases Vs.1 hy with hy|hy
  ·exact i2 y hy
  ·simp at hy;subst hy;omega
theorem fS(l:List Nd):(aX l).length=l.length:=by
 refine dT (P:=fun l=>(aX l).length=l.length) rfl (fun l x ih=>?_) l;rw[iG];simp[ih]
theorem lZ(l:List Nd):(b9 l).length=l.length:=by
 refine dT (P:=fun l=>(b9 l).length=l.length) rfl (fun l x ih=>?_) l;rw[nG];simp[ih]
theorem Bn{a b:Int}(ha:0<=a)(hb:0<b):a.tdiv b<=a:=by
 rw[XT ha];exact Int.ediv_le_self _ ha
theorem kH{a b:Int}(ha:0<=a)(hb:0<b):0<=a.tmod b/\a.tmod b<b:=⟨W5 _ ha,Wp _ hb⟩
theorem Gz(k:Int)(hk:0<=k):gH (wM k)/\bF (wM k)<=2:=by
 have h4:=kH hk (show (0:Int)<4 by omega);have hd:0<=k.tdiv 4:=W6 hk om;have a:=kH hd (show (0:Int)<9 by omega);have b:=kH hd (show (0:Int)<2 by omega);have c:=kH hd (show (0:Int)<3 by omega);unfold wM;split
 ·exact⟨iP ⟨om,om⟩ ⟨om,om⟩,by simp[bF,cJ]⟩
 ·split
  ·exact⟨iP ⟨om,om⟩ ⟨om,om⟩,by simp[bF,cJ]⟩
  ·split
   ·refine⟨mL ⟨om,om⟩ ⟨om,om⟩ ?_ (by simp) (by simp[oH]),by simp[bF,cJ]⟩;rcases(show ((k.tdiv 4).tmod 3).toNat=0∨((k.tdiv 4).tmod 3).toNat=1∨((k.tdiv 4).tmod 3).toNat=2 by omega) with h|h|h<;>rw[h]<;>simp
   ·refine⟨mL ⟨om,om⟩ ⟨om,om⟩ (by simp) (by simp) ?_,by simp[bF,cJ]⟩;simp only[oH,and_true];exact iP ⟨om,om⟩ ⟨om,om⟩
def wK:List (List UInt8):=[[97],[98],[99],[100]]
structure L4(x:Nd):Prop where
 ok:n4 x
 vals:x.values.length<=1024
 labels:∀s∈x.labels,s∈wK
 seq:x.kind=3->x.kids.length<=3
structure gI(ns:List Nd):Prop where
 valid:bU [] ns=0
 gen:∀x∈ns,L4 x
theorem oN{kind lo hi:Int}{name:List UInt8}{ws ks:List Int}{ls:List (List UInt8)}{vs:List a6}{v:a6}(h1:i64 kind)(h2:name.length<=1000)(h3:i64 lo)(h4:i64 hi)(h5:ws.length<=1000)(h6:∀w∈ws,i64 w)(h7:ls.length<=1000)(h8:∀s∈ls,s∈wK)
  (h9:vs.length<=1000) (h10:∀v∈vs,gH v/\bF v<=4294967296) (h11:ks.length<=1000) (h12:∀k∈ks,i64 k) (h13:gH v) (h14:bF v<=4294967296)
  (h15:kind=3->ks.length<=3:=by first|(intro h;exact absurd h om)|(intro _;omega)):L4 ⟨kind,name,lo,hi,ws,ls,vs,ks,v⟩:=
 ⟨⟨h1,by simp only;omega,h3,h4,by simp only;omega,h6,by simp only;omega,fun s hs=>by
   have:=h8 s hs;simp[wK] at this;rcases this with rfl|rfl|rfl|rfl<;>simp,by simp only;omega,h10,by simp only;omega,h12,h13,h14⟩,by simp only;omega,h8,h15⟩
theorem Jo(ns:List Nd)(ls ss:List Int)(m:Int):fV ns ls ss ⟨0,[],0,0,[],[],[],[],.mk 0 m [] []⟩=0:=by
 have hv:fL (.mk 0 m [] [])=0:=by simp[fL,bQ,cO,cX,oA,qR,yQ,bF,cJ]
 have hf:cP (ns.length:Int) ⟨0,[],0,0,[],[],[],[],.mk 0 m [] []⟩=true:=by simp[cP,gY,mG,eE]
 have hn:eI (ns.length:Int) ⟨0,[],0,0,[],[],[],[],.mk 0 m [] []⟩=0:=by
  unfold eI;rw[VY (by rw[hf];simp)];simp[mT,eM,hv,dX]
 unfold fV;rw[VY (by rw[hn];simp)];simp[d9,iI,bF,cJ]
theorem DT{bs:List gW}{ss:List Int}:∀(kids:List Int) (rows out:List (List a6)) (S:Int),(∀r∈rows,(cJ r:Int)<=S)->(∀k∈kids,∀v∈(dF bs k).vals,(bF v:Int)<=dR ss k)->eJ bs kids rows=some out->∀r∈out,(cJ r:Int)<=S+fB ss kids
 | [],rows,out,S,h1,_,h=>by
  simp only[eJ] at h;cases h;intro r hr;simpa[fB] using h1 r hr
 | k::ks,rows,out,S,h1,h2,h=>by
  simp only[eJ] at h;split at h
  ·cases h
  ·have e:fB ss (k::ks)=dR ss k+fB ss ks:=by simp only[fB,V1];rw[oW ss ks];simp[fB]
   have ih:=DT ks _ out (S+dR ss k) (fun r hr=>by
    obtain⟨r',h3,v,h4,rfl⟩:=vW hr;have a:=h1 r' h3;have b:=h2 k (by simp) v h4;rw[yG];omega) (fun k' hk'=>h2 k' (by simp[hk'])) h
   intro r hr;have:=ih r hr;omega
theorem LC{bs:List gW}:∀(l:List Int) (a:List a6 × Bool),∀v∈(l.foldl (bL bs) a).1,v∈a.1∨∃k∈l,v∈(dF bs k).vals
 | [],a,v,hv=>.inl hv
 | k::r,a,v,hv=>by
  rcases LC r (bL bs a k) v hv with h|⟨k',h1,h2⟩
  ·simp only[bL] at h;rcases Vs.1 (rA h) with h|h
   ·exact .inl h
   ·exact .inr ⟨k,by simp,h⟩
  ·exact .inr ⟨k',by simp[h1],h2⟩
theorem pN{ss:List Int}:∀(l:List Int) (s:Int) (k:Int),k∈l->dR ss k<=l.foldl (fun s k=>max s (dR ss k)) s/\s<=l.foldl (fun s k=>max s (dR ss k)) s
 | a::r,s,k,h=>by
  have mono:∀(l:List Int) (s:Int),s<=l.foldl (fun s k=>max s (dR ss k)) s:=by
   intro l
   induction l with
   | nil=>intro s;simp
   | cons b l ih=>intro s;have:=ih (max s (dR ss b));simp only[V1];omega
  simp only[V1];rcases Vg.1 h with rfl|h
  ·have:=mono r (max s (dR ss k));omega
  ·have:=pN (ss:=ss) r (max s (dR ss a)) k h;omega
theorem JF{x:Nd}{bs:List gW}{ss:List Int}(hkd:0<=x.kind/\x.kind<=4)(hb:∀k∈x.kids,∀v∈(dF bs k).vals,(bF v:Int)<=dR ss k):∀v∈(cU x bs).vals,(bF v:Int)<=iI ss x:=by
 intro v hv;unfold cU at hv;split at hv
 ·rename_i h0;simp at hv;subst hv;unfold iI;rw[Vb h0];omega
 ·rename_i h0;split at hv
  ·rename_i h1;split at hv
   ·simp at hv
   ·simp only[hZ,Vq] at hv;obtain⟨j,_,rfl⟩:=hv;unfold iI;rw[VY h0,Vb h1];simp[bF,cJ]
  ·rename_i h1;split at hv
   ·rename_i h3;unfold o8 at hv;split at hv
    ·simp at hv
    ·rename_i rows hr;obtain⟨r,hr2,rfl⟩:=Vq.1 (rA hv);have:=DT x.kids [[]] rows 0 (by simp[cJ]) hb hr r hr2;have e:bF (dP x.name r)=1+cJ r:=by unfold dP;split<;>simp[bF]
     unfold iI;rw[VY h0,VY h1,Vb h3,e];omega
   ·rename_i h3;have key:∀ks:List Int,(∀k∈ks,k∈x.kids)->v∈(jW bs ks).vals->(bF v:Int)<=cQ ss ks:=by
     intro ks hks hv;unfold jW at hv;split at hv
     ·simp at hv
     ·rcases LC ks ([],false) v hv with h|⟨k,h1,h2⟩
      ·simp at h
      ·have:=hb k (hks k h1) v h2;have:=(pN (ss:=ss) ks 0 k h1).1;unfold cQ;omega
    have:(bF v:Int)<=cQ ss (dU x):=by
     unfold dU;by_cases h4:x.kind=4
     ·rw[Vb h4] at hv;rw[VY om];exact key _ (fun k hk=>Wa hk) hv
     ·rw[VY h4] at hv;by_cases h2:x.kind=2
      ·rw[Vb h2];exact key _ (fun k hk=>hk) hv
      ·omega
    unfold iI;rw[VY h0,VY h1,VY h3];omega
theorem G2{bs:List gW}{b:gW}{k:Int}(hk:0<=k):(k<bs.length->dF (bs++[b]) k=dF bs k)/\(k=bs.length->dF (bs++[b]) k=b):=by
 unfold dF;constructor
 ·intro h;rw[VW,VW,Vp om]
 ·intro h;rw[VW,Vx om,show k.toNat-bs.length=0 by omega];rfl
theorem Ol{bs:List Int}{b:Int}{k:Int}(hk:0<=k):(k<bs.length->dR (bs++[b]) k=dR bs k)/\(k=bs.length->dR (bs++[b]) k=b):=by
 unfold dR;constructor
 ·intro h;rw[VW,VW,Vp om]
 ·intro h;rw[VW,Vx om,show k.toNat-bs.length=0 by omega];rfl
theorem Iu(ns:List Nd)(hg:∀(j:Nat) (x:Nd),ns[j]? = some x->lF j x):∀(k:Int),0<=k->k<ns.length->∀v∈(dF (aT ns) k).vals,(bF v:Int)<=dR (b9 ns) k:=by
 refine dT (P:=fun ns=>(∀(j:Nat) (x:Nd),ns[j]? = some x->lF j x)->∀(k:Int),0<=k->k<ns.length->∀v∈(dF (aT ns) k).vals,(bF v:Int)<=dR (b9 ns) k) (fun _ k h1 h2=>by simp at h2;omega) (fun l x ih hg k hk0 hk v hv=>?_) ns hg;have hgl:∀(j:Nat) (y:Nd),l[j]? = some y->lF j y:=fun j y hy=>hg j y (by
  have:=(VX.1 hy).1;rw[Vp this];exact hy)
 have ih:=ih hgl;have hx:=hg l.length x (by simp);rw[jI] at hv;rw[nG];have e1:=G2 (bs:=aT l) (b:=cU x (aT l)) hk0;have e2:=Ol (bs:=b9 l) (b:=iI (b9 l) x) hk0;rw[fU] at e1;rw[lZ] at e2;rcases(show k<l.length∨k=l.length by simp at hk;omega) with h|h
 ·rw[e1.1 h] at hv;rw[e2.1 h];exact ih k hk0 h v hv
 ·rw[e1.2 h] at hv;rw[e2.2 h];refine JF hx.kind (fun q hq u hu=>?_) v hv;obtain⟨j,hj⟩:=V2 hq;obtain⟨q0,q1⟩:=hx.kids j q hj;exact ih q q0 q1 u hu
theorem HC(ns:List Nd)(ho:∀x∈ns,n4 x)(h:bU [] ns=0)(k:Int)(h0:0<=k)(h1:k<ns.length):∀v∈(dF (aT ns) k).vals,bF v<=1024:=by
 intro v hv;have a:=Iu ns (mW ns ho h) k h0 h1 v hv;have b:=(mX (M:=1024) om (i6 ns h).2 k).2;omega
theorem gI.ok{ns:List Nd}(h:gI ns):∀x∈ns,n4 x:=fun x hx=>(h.gen x hx).ok
theorem gI.good{ns:List Nd}(h:gI ns):∀(j:Nat) (x:Nd),ns[j]? = some x->lF j x:=mW ns h.ok h.valid
theorem gI.snoc{ns:List Nd}{x:Nd}(h:gI ns)(hl:ns.length<=1000)(hx:L4 x)(hv:cL (ns++[x])=0):gI (ns++[x]):=by
 unfold cL at hv;rw[VY (by simp;omega)] at hv;refine⟨hv,fun y hy=>?_⟩;rcases Vs.1 hy with hy|hy
 ·exact h.gen y hy
 ·simp at hy;rw[hy];exact hx
theorem gI.leaf{ns:List Nd}(h:gI ns){m:Int}(hm:i64 m):gI (ns++[⟨0,[],0,0,[],[],[],[],.mk 0 m [] []⟩]):=by
 refine⟨?_,fun y hy=>?_⟩
 ·rw[fT [] ns _ h.valid];exact Jo _ _ _ _
 ·rcases Vs.1 hy with hy|hy
  ·exact h.gen y hy
  ·simp at hy;rw[hy];have h0:i64 0:=⟨om,om⟩
   exact oN h0 (by simp) h0 h0 (by simp) (by simp) (by simp) (by simp) (by simp) (by simp) (by simp) (by simp) (iP h0 hm) (by simp[bF,cJ])
def fI(a b:List a6):List a6:=match a,b with
 | [],b=>b
 | a,[]=>a
 | x::l,y::m=>if cE x y<0 then x::fI l (y::m) else if cE x y=0 then x::fI l m else y::fI (x::l) m
termination_by a.length+b.length
theorem B9(b:List a6):fI [] b=b:=by rw[fI]
theorem HJ(a:List a6):fI a []=a:=by
 cases a with
 | nil=>rw[fI]
 | cons x l=>rw[fI];simp
theorem Im(x y:a6)(l m:List a6):fI (x::l) (y::m)=if cE x y<0 then x::fI l (y::m) else if cE x y=0 then x::fI l m else y::fI (x::l) m:=by rw[fI]
mutual
theorem Ef:∀(a b:a6),cE a b=0->a=b
 | .mk k n s ks,.mk k' n' s' ks',h=>by
  simp only[cE,andThen] at h;split at h
  ·rename_i h1;split at h
   ·rename_i h2;split at h
    ·rename_i h3;have e1:k=k':=Decidable.byContradiction fun e=>vT e h1
     have e2:n=n':=Decidable.byContradiction fun e=>vT e h2
     rw[e1,e2,oT h3,OE ks ks' h]
    ·rename_i h3;exact absurd h h3
   ·rename_i h2;exact absurd h h2
  ·rename_i h1;exact absurd h h1
theorem OE:∀(l m:List a6),gF l m=0->l=m
 | [],[],_=>rfl
 | [],_::_,h=>by simp[gF] at h
 | _::_,[],h=>by simp[gF] at h
 | a::l,b::m,h=>by
  simp only[gF,andThen] at h;split at h
  ·rename_i h1;rw[Ef a b h1,OE l m h]
  ·rename_i h1;exact absurd h h1
end
theorem DE(a:a6):¬cE a a<0:=by rw[(lL a).refl];omega
theorem F7:∀{a b:List a6},lN a->lN b->(∀x,x∈a↔x∈b)->a=b
 | [],[],_,_,_=>rfl
 | [],y::m,_,_,h=>by have:=(h y).2 (by simp);simp at this
 | x::l,[],_,_,h=>by have:=(h x).1 (by simp);simp at this
 | x::l,y::m,h1,h2,h=>by
  unfold lN at h1 h2;rw[WF] at h1 h2;have e:x=y:=by
   rcases Vg.1 ((h x).1 (by simp)) with e|e
   ·exact e
   ·rcases Vg.1 ((h y).2 (by simp)) with e'|e'
    ·exact e'.symm
    ·have a1:=h2.1 x e;have a2:=h1.1 y e';have:=Gx a1 (by omega:cE x y<=0);exact absurd this (DE y)
  subst e;congr 1;refine F7 h1.2 h2.2 fun z=>?_
  constructor
  ·intro hz;rcases Vg.1 ((h z).1 (by simp[hz])) with e|e
   ·subst e;exact absurd (h1.1 z hz) (DE z)
   ·exact e
  ·intro hz;rcases Vg.1 ((h z).2 (by simp[hz])) with e|e
   ·subst e;exact absurd (h2.1 z hz) (DE z)
   ·exact e
theorem H6:∀(l:List a6) (v x:a6),x∈uI l v↔x=v∨x∈l
 | [],v,x=>by simp[uI,cD]
 | a::r,v,x=>by
  rw[EV];split
  ·split
   ·rename_i h;have e:=Ef a v (by simpa using h);subst e;constructor
    ·intro h;exact .inr h
    ·rintro(rfl|h)
     ·simp
     ·exact h
   ·simp
  ·simp only[Vg,H6 r v x];constructor
   ·rintro(h|h|h)
    ·exact .inr (.inl h)
    ·exact .inl h
    ·exact .inr (.inr h)
   ·rintro(h|h|h)
    ·exact .inr (.inl h)
    ·exact .inl h
    ·exact .inr (.inr h)
theorem oX(l:List a6)(x:a6):x∈eR l↔x∈l:=by
 refine dT (P:=fun l=>x∈eR l↔x∈l) (by simp[eR]) (fun l a ih=>?_) l;rw[pC,H6,ih];simp only[Vs,List.mem_singleton];constructor
 ·rintro(h|h)
  ·exact .inr h
  ·exact .inl h
 ·rintro(h|h)
  ·exact .inr h
  ·exact .inl h
theorem Gk{l:List a6}(h:lN l):eR l=l:=F7 (v6 l) h (oX l)
theorem o6(a b:List a6)(x:a6):x∈fI a b↔x∈a∨x∈b:=by
 fun_induction fI a b with
 | case1 b=>simp
 | case2 a h=>simp
 | case3 y l z m h ih=>simp only[Vg,ih];simp only[or_assoc]
 | case4 y l z m h1 h2 ih=>
  have:=Ef y z h2;subst this;simp only[Vg,ih];constructor
  ·rintro(h|h|h)
   ·exact .inl (.inl h)
   ·exact .inl (.inr h)
   ·exact .inr (.inr h)
  ·rintro((h|h)|(h|h))
   ·exact .inl h
   ·exact .inr (.inl h)
   ·exact .inl h
   ·exact .inr (.inr h)
 | case5 y l z m h1 h2 ih=>
  simp only[Vg,ih];constructor
  ·rintro(h|(h|h)|h)
   ·exact .inr (.inl h)
   ·exact .inl (.inl h)
   ·exact .inl (.inr h)
   ·exact .inr (.inr h)
  ·rintro((h|h)|(h|h))
   ·exact .inr (.inl (.inl h))
   ·exact .inr (.inl (.inr h))
   ·exact .inl h
   ·exact .inr (.inr h)
theorem DZ(a b:List a6):lN a->lN b->lN (fI a b):=by
 fun_induction fI a b with
 | case1 b=>intro _ h;exact h
 | case2 a h=>intro h _;exact h
 | case3 y l z m h ih=>
  intro h1 h2;unfold lN at h1 h2 ⊢;have h1':=WF.1 h1;have h2':=WF.1 h2;refine WF.2 ⟨fun x hx=>?_,ih h1'.2 h2⟩;rcases(o6 _ _ _).1 hx with hx|hx
  ·exact h1'.1 x hx
  ·rcases Vg.1 hx with rfl|hx
   ·exact h
   ·have:=h2'.1 x hx;exact Gx h om
 | case4 y l z m hn he ih=>
  intro h1 h2;unfold lN at h1 h2 ⊢;have h1':=WF.1 h1;have h2':=WF.1 h2;have:=Ef y z he;subst this;refine WF.2 ⟨fun x hx=>?_,ih h1'.2 h2'.2⟩;rcases(o6 _ _ _).1 hx with hx|hx
  ·exact h1'.1 x hx
  ·exact h2'.1 x hx
 | case5 y l z m hn he ih=>
  intro h1 h2;unfold lN at h1 h2 ⊢;have h1':=WF.1 h1;have h2':=WF.1 h2;have hzy:=LG (a:=y) (b:=z) om;refine WF.2 ⟨fun x hx=>?_,ih h1 h2'.2⟩;rcases(o6 _ _ _).1 hx with hx|hx
  ·rcases Vg.1 hx with rfl|hx
   ·exact hzy
   ·have:=h1'.1 x hx;exact Gx hzy om
  ·exact h2'.1 x hx
theorem HE{a b:List a6}(h1:lN a)(h2:lN b):fI a b=eR (a++b):=
 F7 (DZ a b h1 h2) (v6 _) fun x=>by rw[o6,oX,Vs]
theorem Dn:∀(r l:List Nd),∃m,aT (l++r)=aT l++m
 | [],l=>⟨[],by simp⟩
 | x::r,l=>by
  obtain⟨m,hm⟩:=Dn r (l++[x]);refine⟨cU x (aT l)::m, ?_⟩;have e:l++x::r=l++[x]++r:=by simp
  rw[e,hm,jI];simp
theorem Qd{a b:List gW}{k:Int}(h0:0<=k)(h:k<a.length):dF (a++b) k=dF a k:=by
 unfold dF;rw[VW,VW,Vp om]
theorem kV{ns:List Nd}{n:Nat}{k:Int}(h0:0<=k)(h:k<n)(hn:n<=ns.length):dF (aT (ns.take n)) k=dF (aT ns) k:=by
 obtain⟨m,hm⟩:=Dn (ns.drop n) (ns.take n);rw[List.take_append_drop] at hm;rw[hm,Qd h0 (by rw[fU,V3];omega)]
theorem Dc{b1 b2:List gW}{l:List Int}(h:∀k∈l,dF b1 k=dF b2 k):jW b1 l=jW b2 l:=by
 have:∀(l:List Int) (a:List a6 × Bool),(∀k∈l,dF b1 k=dF b2 k)->l.foldl (bL b1) a=l.foldl (bL b2) a:=by
  intro l
  induction l with
  | nil=>intro a _;rfl
  | cons k r ih=>
   intro a h;simp only[V1];have e:bL b1 a k=bL b2 a k:=by unfold bL;rw[h k (by simp)]
   rw[e];exact ih _ fun q hq=>h q (by simp[hq])
 unfold jW;rw[this l _ h]
theorem A9{b1 b2:List gW}:∀(l:List Int) (rows:List (List a6)),(∀k∈l,dF b1 k=dF b2 k)->eJ b1 l rows=eJ b2 l rows
 | [],rows,_=>rfl
 | k::r,rows,h=>by
  simp only[eJ,h k (by simp)];split
  ·rfl
  ·exact A9 r _ fun q hq=>h q (by simp[hq])
theorem BL{b1 b2:List gW}{x:Nd}(h:∀k∈x.kids,dF b1 k=dF b2 k):cU x b1=cU x b2:=by
 unfold cU;split
 ·rfl
 ·split
  ·rfl
  ·split
   ·unfold o8;rw[A9 x.kids _ h]
   ·split
    ·exact Dc fun k hk=>h k (Wa hk)
    ·exact Dc h
theorem Da{ns:List Nd}(hg:∀(j:Nat) (x:Nd),ns[j]? = some x->lF j x){i:Nat}{x:Nd}(hx:ns[i]? = some x):dF (aT ns) i=cU x (aT ns):=by
 obtain⟨hi,he⟩:=VX.1 hx;have e1:dF (aT (ns.take (i+1))) i=dF (aT ns) i:=kV om om om;rw[←e1,List.take_succ_eq_append_getElem hi,jI,he];rw[(G2 (b:=cU x (aT (ns.take i))) (show (0:Int)<=i by omega)).2 (by rw[fU,V3];omega)];refine BL fun k hk=>?_
 obtain⟨j,hj⟩:=V2 hk;obtain⟨h0,h1⟩:=(hg i x hx).kids j k hj;exact kV h0 h1 om
theorem AW:∀{a b:List a6} {x y:a6},a.length=b.length->gF (a++[x]) (b++[y])=andThen (gF a b) (cE x y)
 | [],[],x,y,_=>by
  simp only[WG,gF,andThen];split
  ·rename_i h;rw[h];rfl
  ·rfl
 | [],_::_,_,_,h=>by simp at h
 | _::_,[],_,_,h=>by simp at h
 | a::l,b::m,x,y,h=>by
  simp only[WH,gF];rw[AW (by simpa using h)];unfold andThen;repeat' split
  all_goals first|rfl|omega
def Om(n:Nat)(rows:List (List a6)):Prop:=(∀r∈rows,r.length=n)/\rows.Pairwise fun a b=>gF a b<0
theorem LU{n:Nat}{rows:List (List a6)}{l:List a6}(h:Om n rows)(hl:lN l):Om (n+1) (gO rows l):=by
 obtain⟨h1,h2⟩:=h;refine⟨fun r hr=>?_, ?_⟩
 ·obtain⟨r',h3,v,_,rfl⟩:=vW hr;simp[h1 r' h3]
 ·unfold gO
  induction rows with
  | nil=>simp
  | cons a rs ih=>
   rw[WF] at h2;rw[W4,List.pairwise_append];refine⟨?_,ih (fun r hr=>h1 r (by simp[hr])) h2.2, ?_⟩
   ·rw[X2];refine hl.imp fun {x y} hxy=>?_
    rw[AW rfl,(Ak a).refl];simpa[andThen] using hxy
   ·intro p hp q hq;obtain⟨v,_,rfl⟩:=Vq.1 hp;obtain⟨r',h3,u,_,rfl⟩:=vW (rows:=rs) (l:=l) hq;have:=h2.1 r' h3;rw[AW (by rw[h1 a (by simp),h1 r' (by simp[h3])])];unfold andThen;split
    ·omega
    ·exact this
theorem FH{bs:List gW}(hb:∀b∈bs,lN b.vals):∀(kids:List Int) (n:Nat) (rows out:List (List a6)),Om n rows->eJ bs kids rows=some out->Om (n+kids.length) out
 | [],n,rows,out,h,h2=>by
  simp only[eJ] at h2;cases h2;exact h
 | k::ks,n,rows,out,h,h2=>by
  simp only[eJ] at h2;split at h2
  ·cases h2
  ·have hs:lN (dF bs k).vals:=by
    unfold dF;rw[VW];cases e:bs[k.toNat]? with
    | none=>simp[lN]
    | some b=>exact hb b (Ve e)
   have:=FH hb ks (n+1) _ out (LU h hs) h2;simp only[WB];rw[show n+(ks.length+1)=n+1+ks.length by omega];exact this
theorem Oh(name:List UInt8)(a b:List a6):cE (dP name a) (dP name b)=gF a b:=by
 unfold dP;split<;>simp[cE,(kX _).refl,(qQ _).refl,andThen]
theorem Mi{n:Nat}{rows:List (List a6)}(name:List UInt8)(h:Om n rows):lN (rows.map (dP name)):=by
 unfold lN;rw[X2];exact h.2.imp fun {a b} h=>by rw[Oh];exact h
theorem LM(lo hi:Int):lN (hZ lo hi):=by
 unfold lN hZ;rw[X2];refine List.pairwise_lt_range.imp fun {i j} h=>?_
 rw[N4 rfl om];rw[Vb om];omega
theorem LJ{x:Nd}{bs:List gW}:lN (cU x bs).vals:=by
 unfold cU;split
 ·simp[lN]
 ·split
  ·split
   ·simp[lN]
   ·exact LM _ _
  ·split
   ·unfold o8;split
    ·simp[lN]
    ·exact v6 _
   ·generalize (if x.kind=4 then x.kids.drop 1 else x.kids)=ks;unfold jW;split
    ·simp[lN]
    ·have:∀(l:List Int) (a:List a6 × Bool),lN a.1->lN (l.foldl (bL bs) a).1:=by
      intro l
      induction l with
      | nil=>intro a h;exact h
      | cons k r ih=>intro a _;exact ih _ (v6 _)
     exact this _ _ (by simp[lN])
theorem Cy(ns:List Nd):∀b∈aT ns,lN b.vals:=by
 refine dT (P:=fun ns=>∀b∈aT ns,lN b.vals) (by simp[aT]) (fun l x ih=>?_) ns;rw[jI];intro b hb;rcases Vs.1 hb with hb|hb
 ·exact ih b hb
 ·simp at hb;rw[hb];exact LJ
theorem QY{bs:List gW}(hb:∀b∈bs,lN b.vals)(k:Int):lN (dF bs k).vals:=by
 unfold dF;rw[VW];cases h:bs[k.toNat]? with
 | none=>simp[lN]
 | some b=>exact hb b (Ve h)
theorem LN{bs:List gW}(hb:∀b∈bs,lN b.vals){x:Nd}{rows:List (List a6)}(h:eJ bs x.kids [[]]=some rows):o8 bs x=⟨rows.map (dP x.name),false⟩:=by
 unfold o8;rw[h];simp only;rw[Gk (Mi _ (FH hb x.kids 0 [[]] rows ⟨by simp,by simp⟩ h))]
def rowAt:List (List a6)->Nat->List a6
 | [],_=>[]
 | l::r,k=>rowAt r (k/l.length)++(l[k%l.length]?).toList
def q7:List (List a6)->List (List a6)
 | []=>[[]]
 | l::r=>gO (q7 r) l
def kE:List (List a6)->Nat
 | []=>1
 | l::r=>kE r*l.length
theorem AP:∀ls:List (List a6),(q7 ls).length=kE ls
 | []=>rfl
 | l::r=>by rw[q7,vK,kE,AP r]
theorem FV(l:List a6):∀(rows:List (List a6)) (k:Nat) (a:List a6) (v:a6),rows[k/l.length]? = some a->l[k%l.length]? = some v->(gO rows l)[k]? = some (a++[v])
 | [],k,a,v,h,_=>by simp at h
 | r::rs,k,a,v,h,hv=>by
  have hpos:0<l.length:=by
   rcases V6 l.length with h0|h0
   ·have:l=[]:=WL.1 h0;subst this;simp at hv
   ·exact h0
  unfold gO;rw[W4];rcases Vm k l.length with hk|hk
  ·rw[Vp (by simpa using hk)];rw[Nat.div_eq_of_lt hk] at h;rw[Wq hk] at hv;simp at h;subst h;simp[hv]
  ·rw[Vx (by simpa using hk),We];have e1:k/l.length=(k-l.length)/l.length+1:=by
    conv=>lhs;rw[show k=(k-l.length)+l.length by omega]
    exact Nat.add_div_right _ hpos
   have e2:k%l.length=(k-l.length)%l.length:=(Nat.mod_eq_sub_mod hk)
   rw[e1] at h;rw[e2] at hv;exact FV l rs (k-l.length) a v (by simpa using h) hv
theorem E9:∀(ls:List (List a6)) (k:Nat),k<kE ls->(q7 ls)[k]? = some (rowAt ls k)
 | [],k,h=>by
  simp[kE] at h;subst h;rfl
 | l::r,k,h=>by
  simp only[kE] at h;have hpos:0<l.length:=by
   rcases V6 l.length with h0|h0
   ·rw[h0] at h;simp at h
   ·exact h0
  have h1:k/l.length<kE r:=Nat.div_lt_of_lt_mul (by rw[XU];exact h);have h2:=YC k hpos;have e:=VV h2;rw[q7,rowAt,e];exact FV l _ k _ _ (E9 r _ h1) e
theorem FG{bs:List gW}:∀(kids:List Int) (ls:List (List a6)),kE ls<=1024 ->
  eJ bs kids (q7 ls)=if (kids.foldl (fun(a:Nat × Bool) k=>(a.1*(dF bs k).vals.length,a.2 || (dF bs k).many || decide (1024<a.1*(dF bs k).vals.length))) (kE ls,false)).2 then none
   else some (q7 (kids.reverse.map (fun k=>(dF bs k).vals)++ls))
 | [],ls,h=>by simp[eJ]
 | k::r,ls,h=>by
  have stay:∀(l:List Int) (n:Nat),(l.foldl (fun(a:Nat × Bool) k=>(a.1*(dF bs k).vals.length,a.2 || (dF bs k).many || decide (1024<a.1*(dF bs k).vals.length))) (n,true)).2=true:=by
   intro l
   induction l with
   | nil=>intro n;rfl
   | cons q l ih=>intro n;simp only[V1,Bool.true_or];exact ih _
  simp only[eJ,V1,AP,XJ];by_cases hc:(dF bs k).many=true∨1024<kE ls*(dF bs k).vals.length
  ·have e:((dF bs k).many || decide (1024<kE ls*(dF bs k).vals.length))=true:=by simpa using hc
   rw[Vb hc,e,Vb (stay _ _)]
  ·have e:((dF bs k).many || decide (1024<kE ls*(dF bs k).vals.length))=false:=by
    rw[not_or] at hc;simp at hc ⊢;exact hc
   rw[VY hc,e];rw[not_or] at hc;have:=FG (bs:=bs) r ((dF bs k).vals::ls) (by simp only[kE];omega);simp only[q7,kE] at this;rw[this];simp[List.append_assoc]
theorem CN:∀{l:List a6},cO l=true->∀{v:a6},v∈l->bQ v=true
 | a::r,h,v,hv=>by
  simp only[cO,VZ] at h;rcases Vg.1 hv with rfl|hv
  ·exact h.1
  ·exact CN h.2 hv
theorem Cs:∀{l:List a6},(∀v∈l,bQ v=true)->cO l=true
 | [],_=>rfl
 | a::r,h=>by simp only[cO,VZ];exact⟨h a (Vu ..),Cs fun v hv=>h v (Vn _ hv)⟩
theorem E5{l:List a6}(h:oH l)(k:Nat):oH (l.take k):=p5 fun v hv=>i8 h v (WE hv)
theorem wN{l:List a6}(h:cO l=true)(k:Nat):cO (l.take k)=true:=Cs fun v hv=>CN h (WE hv)
def UF(p s:List UInt8):Option (List UInt8):=if p.isPrefixOf s then some (s.drop p.length) else none
theorem CL:∀(l m:List UInt8) (acc a:Nat),Lib.parseUint10 acc l = .ok a->Lib.parseUint10 acc (l++m)=Lib.parseUint10 a m
 | [],m,acc,a,h=>by
  simp only[Lib.parseUint10] at h;injection h with h;rw[h];rfl
 | c::r,m,acc,a,h=>by
  simp only[Lib.parseUint10,WH] at h ⊢;split at h
  ·rename_i h1;rw[Vb h1];split at h
   ·cases h
   ·rename_i h2;rw[VY h2];split at h
    ·cases h
    ·rename_i h3;rw[VY h3];exact CL r m _ a h
  ·cases h
theorem EY:∀(u:Nat),u<18446744073709551616->Lib.parseUint10 0 (Lib.decDigits u) = .ok u:=by
 intro u
 induction u using Nat.strongRecOn with
 | _ u ih=>
  intro hu;by_cases h10:u<10
  ·rw[Lib.decDigits_one h10];have e:(UInt8.ofNat (48+u)).toNat=48+u:=by simp;omega
   simp only[Lib.parseUint10,e];rw[Vb om,VY om,VY om];congr 1;omega
  ·rw[Lib.decDigits,dif_neg h10,CL _ _ 0 (u/10) (ih (u/10) om om)];have e:(UInt8.ofNat (48+u%10)).toNat=48+u%10:=by simp;omega
   simp only[Lib.parseUint10,e];rw[Vb om,VY om,VY om];congr 1;omega
theorem Hy(u:Nat):∃c r,Lib.decDigits u=c::r/\48<=c.toNat/\c.toNat<=57:=by
 induction u using Nat.strongRecOn with
 | _ u ih=>
  by_cases h10:u<10
  ·rw[Lib.decDigits_one h10];have e:(UInt8.ofNat (48+u)).toNat=48+u:=by simp;omega
   exact⟨_,[],rfl,om,om⟩
  ·obtain⟨c,r,h1,h2⟩:=ih (u/10) om;rw[Lib.decDigits,dif_neg h10,h1];exact⟨c,_,rfl,h2⟩
theorem Lm{n:Int}(h:i64 n):Lib.atoiAll (Lib.itoa n) = .ok n:=by
 unfold i64 at h;unfold Lib.itoa;split
 ·have hp:=EY n.natAbs om;obtain⟨c,r,h1,_⟩:=Hy n.natAbs;rw[Lib.atoiAll_minus,Lib.parseMag,VY (by rw[h1];simp),hp,Lib.signed,VY om];congr 1;omega
 ·have hp:=EY n.toNat om;obtain⟨c,r,h1,h2⟩:=Hy n.toNat;rw[h1] at hp ⊢;rw[Lib.atoiAll_plain c r om om,Lib.parseMag,VY (by simp),hp,Lib.signless,VY om];congr 1;omega
def oR(s:List UInt8):List (List UInt8)->Nat->Int
 | [],_=>-1
 | x::r,i=>if x=s then(i:Int) else oR s r (i+1)
def zZ(l:List (List UInt8))(s:List UInt8):Int:=oR s l 0
theorem xJ{s:List UInt8}:∀(l:List (List UInt8)) (i:Nat),oR s l i = -1∨(i<=oR s l i/\oR s l i<i+l.length)
 | [],i=>.inl rfl
 | x::r,i=>by
  simp only[oR];split
  ·right;simp;omega
  ·rcases xJ (s:=s) r (i+1) with h|h
   ·exact .inl h
   ·right;simp;omega
def dQ(x:Nd):Int:=if x.kind=1 then x.hi-x.lo+1 else if x.kind=2 then x.kids.length else 0
structure xP(x:Nd):Prop where
 ok:n4 x
 rng:x.lo<=x.hi/\-4611686018427387904<=x.lo/\x.hi<=4611686018427387904/\x.hi<x.lo+1099511627776
 klen:x.kids.length<=2000
 kl2:x.kind=2->x.kids.length<=1000
 ch:x.kind=2->1<=x.kids.length/\(x.labels.length=0∨x.labels.length=x.kids.length)
theorem qI{x:Nd}(h:xP x):0<=dQ x/\dQ x<=1099511627776:=by
 have:=h.rng;have:=h.klen;unfold dQ;split
 ·omega
 ·split<;>omega
def Nz(s:List UInt8):Option Int:=match Lib.atoiAll s with
 | .ok n=>if Lib.itoa n=s then some n else none
 | _=>none
def yD(a b:Nd)(k:Nat):Int × Bool:=
 if a.kind=1 then(zZ b.labels (Lib.itoa (a.lo+k)),decide (0<=zZ b.labels (Lib.itoa (a.lo+k))))
 else if b.kind=1 then(if a.labels.length=0 then(0,false) else match Nz (a.labels.getD k []) with
  | some x=>if x<b.lo∨b.hi<x then(0,false) else(x-b.lo,true)
  | none=>(0,false))
 else if a.labels.length=0∨b.labels.length=0 then(k,decide (k<b.kids.length))
 else if k<b.labels.length/\b.labels.getD k []=a.labels.getD k [] then(k,true)
 else(zZ b.labels (a.labels.getD k []),decide (0<=zZ b.labels (a.labels.getD k [])))
def qO(a b:Nd)(k:Int):Int × Bool:=
 if k<0∨dQ a<=k∨dQ b=0 then(0,false)
 else if a.kind=1/\b.kind=1 then(min (max (a.lo+k) b.lo) b.hi-b.lo,decide (min (max (a.lo+k) b.lo) b.hi=a.lo+k))
 else if (yD a b k.toNat).2=true then((yD a b k.toNat).1,true) else(min k (dQ b-1),false)
theorem jK(ns:List Nd)(h:bU [] ns=0):∀(j:Nat) (x:Nd),ns[j]? = some x->eI j x=0:=by
 refine dT (P:=fun ns=>bU [] ns=0->∀(j:Nat) (x:Nd),ns[j]? = some x->eI j x=0) (fun _ j x hx=>by simp at hx) (fun l x ih h=>?_) ns h;have h1:=jG h;have ih:=ih h1;have hs:=fT [] l x h1;rw[h] at hs;simp only[WG] at hs;obtain⟨hg,-,-,-⟩:=f7 hs.symm;intro j y hy;rcases Vm j l.length with hj|hj
 ·rw[Vp hj] at hy;exact ih j y hy
 ·rw[Vx hj] at hy;have e:j-l.length=0:=by
   have:=(VX.1 hy).1;simp at this;omega
  rw[e] at hy;simp at hy;subst hy;rw[show j=l.length by omega];exact hg
structure VN(LB:List (List UInt8))(x:Nd):Prop where
 opt:xP x
 lab:∀s∈x.labels,s∈LB
 ll:x.labels.length<=1000
theorem zX{bs:List gW}:∀(l:List Int) (a:List a6 × Bool),a.2=true->(l.foldl (bL bs) a).2=true
 | [],_,h=>h
 | k::r,a,h=>zX r _ (by simp[bL,h])
theorem zM{l:List a6}(h:l≠[]):eR l≠[]:=by
 cases l with
 | nil=>exact absurd rfl h
 | cons a r=>exact List.ne_nil_of_mem ((oX (a::r) a).2 (by simp))
theorem HD{bs:List gW}:∀(l:List Int) (a:List a6 × Bool),a.1≠[]->(l.foldl (bL bs) a).1≠[]
 | [],_,h=>h
 | k::r,a,h=>HD r _ (zM (by simp[h]))
theorem R6{bs:List gW}{l:List Int}(hl:l≠[])(h:∀k∈l,(dF bs k).many=false->(dF bs k).vals≠[])(hm:(jW bs l).many=false):(jW bs l).vals≠[]:=by
 unfold jW at hm ⊢;split at hm
 ·simp at hm
 ·rename_i hf;rw[VY hf];simp only;cases l with
  | nil=>exact absurd rfl hl
  | cons k r=>
   simp only[V1] at hf ⊢;have hk:(bL bs ([],false) k).2=false:=by
    cases e:(bL bs ([],false) k).2 with
    | false=>rfl
    | true=>exact absurd (zX r _ e) hf
   refine HD r _ (zM ?_);simp only[bL,XJ,XF] at hk;simp only[WG];exact h k (by simp) hk.1
theorem Ks{bs:List gW}:∀(kids:List Int) (rows out:List (List a6)),rows≠[]->(∀k∈kids,(dF bs k).many=false->(dF bs k).vals≠[])->eJ bs kids rows=some out->out≠[]
 | [],rows,out,h,_,h2=>by
  simp only[eJ] at h2;cases h2;exact h
 | k::ks,rows,out,h,hk,h2=>by
  simp only[eJ] at h2;split at h2
  ·cases h2
  ·rename_i hc;rw[not_or] at hc;refine Ks ks _ out ?_ (fun q hq=>hk q (by simp[hq])) h2;have hv:=hk k (by simp) (by simpa using hc.1);have:=vK (dF bs k).vals rows;intro e;rw[e] at this;have a:=WY.2 h;have b:=WY.2 hv;have:=Xq a b;simp at *;omega
theorem kM(ns:List Nd)(h:bU [] ns=0):∀(j:Nat) (x:Nd),ns[j]? = some x->fV (ns.take j) (aX (ns.take j)) (b9 (ns.take j)) x=0:=by
 intro j x hx;obtain⟨hj,he⟩:=VX.1 hx;have e:ns=ns.take j++x::ns.drop (j+1):=by
  rw[←he];simp
 have h1:bU [] (ns.take j)=0:=by
  rw[e] at h;exact jG h
 have h2:bU [] (ns.take j++[x])=0:=by
  have e2:ns=(ns.take j++[x])++ns.drop (j+1):=by simpa using e
  rw[e2] at h;exact jG h
 rw[fT [] _ x h1] at h2;simpa using h2
theorem oE{i:Int}{x:Nd}(h:cP i x=true):(x.kind=2->1<=x.kids.length)/\(x.kind=4->x.kids.length=x.values.length+1):=by
 unfold cP at h;simp only[VZ,WN,Vt] at h;obtain⟨⟨⟨⟨_,h2⟩,_⟩,h4⟩,_⟩:=h;exact⟨fun e=>by rcases h2 with h2|h2<;>omega,fun e=>om⟩
theorem iH{i:Int}{x:Nd}(h:eI i x=0):cP i x=true:=by
 unfold eI at h;split at h
 ·omega
 ·rename_i hf;simpa using hf
theorem Hp(ns:List Nd)(ho:∀x∈ns,n4 x)(h:bU [] ns=0):∀(n:Nat) (k:Nat),k<=n->k<ns.length->(dF (aT ns) k).many=false->(dF (aT ns) k).vals≠[]:=by
 have hg:=mW ns ho h;intro n
 induction n with
 | zero=>
  intro k hk hlt hm;have hx:=VV hlt;have hG:=hg k _ hx;have hst:=kM ns h k _ hx;obtain⟨h1,_,_,h4⟩:=f7 hst;have hlen:(ns.take k).length=k:=by simp;omega
  rw[hlen] at h1;have hfp:=oE (iH h1);have hk0:(ns[k]).kids=[]:=by
   cases e:(ns[k]).kids with
   | nil=>rfl
   | cons q r=>have:=hG.kids 0 q (by rw[e];rfl);omega
  rw[Da hg hx] at hm ⊢;have hnum:=dD hG.num;rw[hk0] at hfp;simp at hfp;unfold cU at hm ⊢;split
  ·simp
  ·split
   ·split
    ·rename_i e;rw[VY (by assumption),Vb (by assumption),Vb e] at hm;simp at hm
    ·simp only[hZ];intro e;have:=congrArg List.length e;simp at this;omega
   ·split
    ·unfold o8;rw[hk0];simp[eJ,zM]
    ·have:=hG.kind;omega
 | succ n ih=>
  intro k hk hlt hm;have hx:=VV hlt;have hG:=hg k _ hx;have hst:=kM ns h k _ hx;obtain⟨h1,_,_,h4⟩:=f7 hst;have hlen:(ns.take k).length=k:=by simp;omega
  rw[hlen] at h1;have hfp:=oE (iH h1);rw[Da hg hx] at hm ⊢;have hnum:=dD hG.num;have hkid:∀q∈(ns[k]).kids,(dF (aT ns) q).many=false->(dF (aT ns) q).vals≠[]:=fun q hq=>by
   obtain⟨j,hj⟩:=V2 hq;obtain⟨q0,q1⟩:=hG.kids j q hj;obtain⟨q,rfl⟩:=Vk q0;exact ih q om om
  unfold cU at hm ⊢;split
  ·simp
  ·split
   ·split
    ·rename_i e;rw[VY (by assumption),Vb (by assumption),Vb e] at hm;simp at hm
    ·simp only[hZ];intro e;have:=congrArg List.length e;simp at this;omega
   ·split
    ·rename_i e0 e1 e3;rw[VY e0,VY e1,Vb e3] at hm;unfold o8 at hm ⊢;split
     ·rename_i e;rw[e] at hm;simp at hm
     ·rename_i rows e;have:=Ks _ _ _ (by simp) hkid e;exact zM (by simpa using this)
    ·rename_i e0 e1 e3;rw[VY e0,VY e1,VY e3] at hm;refine R6 ?_ (fun q hq=>hkid q ?_) hm
     ·split
      ·rename_i e4;have hb:=h4 e4;have hkl:=hfp.2 e4;unfold iJ at hb;simp only at hb;split at hb
       ·omega
       ·rename_i hmany;split at hb
        ·rename_i hs;have hsl:=lH hs;have hq:=hG.kids 0 ((ns[k]).kids.getD 0 0) (by
          rw[VW];have:0<(ns[k]).kids.length:=om;rw[VV this];rfl)
         obtain⟨q,hqe⟩:=Vk hq.1;rw[hqe] at hsl hmany hq;simp only[Va] at hsl hmany;rw[XL,show min (q+1) k=q+1 by omega,kV om om om] at hsl hmany;have:=ih q om om (by simpa using hmany);have:=WY.2 this;intro e;have:=congrArg List.length e;simp at this;omega
        ·omega
      ·have:=hG.kind;have:=hfp.1 om;exact List.ne_nil_of_length_pos om
     ·split at hq
      ·exact Wa hq
      ·exact hq
def zA(ss:List Int)(x:Nd):Int:=
 if x.kind=0 then bF x.value else if x.kind=1 then 1 else if x.kind=3 then 1+fB ss x.kids else max 1 (cQ ss (dU x))
theorem K5{ss:List Int}{x:Nd}:zA ss x<=1024↔iI ss x<=1024:=by
 unfold zA iI;split
 ·rfl
 ·split
  ·rfl
  ·split
   ·rfl
   ·omega
theorem Fu{ns:List Nd}(ho:∀x∈ns,n4 x)(h:bU [] ns=0){x:Nd}(hk:x.kind=2∨x.kind=4)(hs:fV ns (aX ns) (b9 ns) x=0):∃q∈dU x,0<=q/\q<ns.length:=by
 obtain⟨h1,_,_,h4⟩:=f7 hs;have hfp:=oE (iH h1);have hn:=kK h1;have mem:∀q∈x.kids,0<=q/\q<ns.length:=fun q hq=>by
  obtain⟨j,hj⟩:=V2 hq;exact hn.kids j q hj
 rcases hk with e|e
 ·unfold dU;rw[Vb e];cases hc:x.kids with
  | nil=>have:=hfp.1 e;rw[hc] at this;simp at this
  | cons q r=>exact⟨q,by simp,mem q (by rw[hc];simp)⟩
 ·unfold dU;rw[VY om];have hb:=h4 e;have hkl:=hfp.2 e;have:1<=x.values.length:=by
   unfold iJ at hb;simp only at hb;split at hb
   ·omega
   ·rename_i hmany;split at hb
    ·rename_i hs;have hsl:=lH hs;have hlt:0<x.kids.length:=om;have hq:=mem (x.kids.getD 0 0) (by rw[VW,VV hlt];exact Vw hlt);obtain⟨q,hqe⟩:=Vk hq.1;rw[hqe] at hsl hmany hq;simp only[Va] at hsl hmany;rw[kV om om om] at hsl hmany;have:=Hp ns ho h q q om om (by simpa using hmany);have:=WY.2 this;omega
    ·omega
  have hlt:1<x.kids.length:=om;refine⟨x.kids[1], ?_,mem _ (Vw hlt)⟩;refine Ve (i:=0) ?_;rw[V9];exact VV hlt
theorem Il(ns:List Nd)(ho:∀x∈ns,n4 x)(h:bU [] ns=0):∀y∈b9 ns,1<=y:=by
 refine dT (P:=fun ns=>(∀x∈ns,n4 x)->bU [] ns=0->∀y∈b9 ns,1<=y) (fun _ _=>by simp[b9]) (fun l x ih ho h=>?_) ns ho h;have h1:=jG h;have hol:∀y∈l,n4 y:=fun y hy=>ho y (V8 _ hy)
 have ih:=ih hol h1;have hs:=fT [] l x h1;rw[h] at hs;simp only[WG] at hs;rw[nG];intro y hy;rcases Vs.1 hy with hy|hy
 ·exact ih y hy
 ·simp at hy;subst hy;have hb:=i6 l h1;have hk:=(kK (f7 hs.symm).1).kind;unfold iI;split
  ·have:=EU x.value;omega
  ·split
   ·omega
   ·split
    ·have:=(jA om hb.2 x.kids).1;omega
    ·obtain⟨q,hq,q0,q1⟩:=Fu hol h1 om hs.symm;have:=(pN (ss:=b9 l) (dU x) 0 q hq).1;have h2:1<=dR (b9 l) q:=by
      unfold dR;have hlt:q.toNat<(b9 l).length:=by rw[lZ];omega
      rw[VW,VV hlt];exact ih _ (Vw hlt)
     unfold cQ;omega
theorem QV{ns:List Nd}(ho:∀x∈ns,n4 x)(h:bU [] ns=0){x:Nd}(hs:fV ns (aX ns) (b9 ns) x=0):zA (b9 ns) x=iI (b9 ns) x:=by
 have hk:=(kK (f7 hs).1).kind;unfold zA iI;split
 ·rfl
 ·split
  ·rfl
  ·split
   ·rfl
   ·obtain⟨q,hq,q0,q1⟩:=Fu ho h om hs;have:=(pN (ss:=b9 ns) (dU x) 0 q hq).1;have h2:1<=dR (b9 ns) q:=by
     unfold dR;have hlt:q.toNat<(b9 ns).length:=by rw[lZ];omega
     rw[VW,VV hlt];exact Il ns ho h _ (Vw hlt)
    unfold cQ at *;omega
theorem KI{a b:List Int}{k:Int}(h0:0<=k)(h:k<a.length):dR (a++b) k=dR a k:=by
 unfold dR;rw[VW,VW,Vp om]
theorem CT{a b:List Int}{l:List Int}(h:∀k∈l,dR a k=dR b k):fB a l=fB b l:=by
 unfold fB;have:∀(l:List Int) (s:Int),(∀k∈l,dR a k=dR b k)->l.foldl (fun s k=>s+dR a k) s=l.foldl (fun s k=>s+dR b k) s:=by
  intro l
  induction l with
  | nil=>intro s _;rfl
  | cons k r ih=>intro s h;simp only[V1];rw[h k (by simp)];exact ih _ fun q hq=>h q (by simp[hq])
 exact this l 0 h
theorem tH{a b:List Int}{l:List Int}(h:∀k∈l,dR a k=dR b k):cQ a l=cQ b l:=by
 unfold cQ;have:∀(l:List Int) (s:Int),(∀k∈l,dR a k=dR b k)->l.foldl (fun s k=>max s (dR a k)) s=l.foldl (fun s k=>max s (dR b k)) s:=by
  intro l
  induction l with
  | nil=>intro s _;rfl
  | cons k r ih=>intro s h;simp only[V1];rw[h k (by simp)];exact ih _ fun q hq=>h q (by simp[hq])
 exact this l 0 h
theorem CC{x:Nd}{q:Int}(h:q∈dU x):q∈x.kids:=by
 unfold dU at h;split at h
 ·exact h
 ·exact Wa h
theorem xO{a b:List Int}{x:Nd}(h:∀k∈x.kids,dR a k=dR b k)(h4:x.kind=4->0<x.kids.length)(hk:0<=x.kind/\x.kind<=4):d9 a x=d9 b x:=by
 unfold d9;split
 ·rfl
 ·split
  ·rfl
  ·split
   ·exact CT h
   ·split
    ·rw[tH fun q hq=>h q (CC hq)]
    ·have:0<x.kids.length:=h4 om;rw[tH fun q hq=>h q (CC hq),h (x.kids.getD 0 0) (by rw[VW,VV this];exact Vw this)]
theorem Jw{a b:List Int}{x:Nd}(h:∀k∈x.kids,dR a k=dR b k):zA a x=zA b x:=by
 unfold zA;rw[CT h,tH fun q hq=>h q (CC hq)]
end Go.Ax
namespace Go.Ax
open Go
structure iB(ns:List Nd)(n:Nat):Prop where
 hn:n<=ns.length
 len:ns.length<=4096
 ok:∀x∈ns,n4 x
 val:bU [] (ns.take n)=0
variable {ns:List Nd} {n:Nat}
theorem iB.okT(h:iB ns n):∀x∈ns.take n,n4 x:=fun x hx=>h.ok x (WE hx)
theorem iB.goodT(h:iB ns n):∀(j:Nat) (x:Nd),(ns.take n)[j]? = some x->lF j x:=mW _ h.okT h.val
theorem CO{i:Nat}{x:Nd}(hi:i<n)(hx:ns[i]? = some x):(ns.take n)[i]? = some x:=by rw[WA,Vb hi];exact hx
theorem iB.node(h:iB ns n){i:Nat}{x:Nd}(hi:i<n)(hx:ns[i]? = some x):lF i x:=h.goodT i x (CO hi hx)
theorem iB.atE(h:iB ns n){k:Int}(h0:0<=k)(h1:k<n):dF (aT (ns.take n)) k=dF (aT ns) k:=kV h0 h1 h.hn
theorem iB.vals(h:iB ns n){k:Int}(h0:0<=k)(h1:k<n):(dF (aT ns) k).vals.length<=1024/\∀v∈(dF (aT ns) k).vals,gH v:=by
 rw[←h.atE h0 h1];exact uW (nR _ h.goodT) k
theorem iB.at(h:iB ns n){i:Nat}{x:Nd}(hi:i<n)(hx:ns[i]? = some x):dF (aT ns) i=cU x (aT ns):=by
 rw[←h.atE om om,Da h.goodT (CO hi hx)];refine BL fun k hk=>?_
 obtain⟨j,hj⟩:=V2 hk;obtain⟨h0,h1⟩:=(h.node hi hx).kids j k hj;exact h.atE h0 om
theorem Ur(ns:List Nd)(k:Int):lN (dF (aT ns) k).vals:=QY (Cy ns) k
theorem iB.ne(h:iB ns n){k:Int}(h0:0<=k)(h1:k<n)(hm:(dF (aT ns) k).many=false):(dF (aT ns) k).vals≠[]:=by
 rw[←h.atE h0 h1] at hm ⊢;obtain⟨k,rfl⟩:=Vk h0;exact Hp _ h.okT h.val k k (Vh _) (by rw[V3];have:=h.hn;omega) hm
theorem iB.step(h:iB ns n){i:Nat}{x:Nd}(hi:i<n)(hx:ns[i]? = some x):fV (ns.take i) (aX (ns.take i)) (b9 (ns.take i)) x=0:=by
 have:=kM _ h.val i x (CO hi hx)
 rwa [XL,Wh om] at this
theorem iB.nodeOK(h:iB ns n){i:Nat}{x:Nd}(hi:i<n)(hx:ns[i]? = some x):F4 i x:=by
 have:=kK (f7 (h.step hi hx)).1
 rwa [V3,Wh (by have:=h.hn;omega)] at this
theorem Rv{bs:List gW}{kids:List Int}{j:Nat}{k:Int}{a:List a6 × Bool}(hk:kids[j]? = some k)(h:(kids.take j).foldl (bL bs) ([],false)=a) :
  (kids.take (j+1)).foldl (bL bs) ([],false)=bL bs a k:=by
 obtain⟨hj,he⟩:=VX.1 hk;rw[List.take_succ_eq_append_getElem hj,WR,h,he];rfl
theorem K6{bs:List gW}{kids:List Int}{j:Nat}(h:((kids.take j).foldl (bL bs) ([],false)).2=true):jW bs kids=⟨[],true⟩:=by
 have e:(kids.foldl (bL bs) ([],false)).2=true:=by
  conv=>lhs;rw[←List.take_append_drop j kids,WR]
  exact zX _ _ h
 unfold jW;rw[Vb e]
theorem Ob{bs:List gW}{kids:List Int}{out:List a6}(h:kids.foldl (bL bs) ([],false)=(out,false)):jW bs kids=⟨out,false⟩:=by
 unfold jW;rw[h];rfl
def g5(bs:List gW)(a:Nat × Bool)(k:Int):Nat × Bool:=(a.1*(dF bs k).vals.length,a.2 || (dF bs k).many || decide (1024<a.1*(dF bs k).vals.length))
theorem Gv{bs:List gW}:∀(l:List Int) (a:Nat × Bool),a.2=true->(l.foldl (g5 bs) a).2=true
 | [],_,h=>h
 | k::r,a,h=>Gv r _ (by simp[g5,h])
theorem IG{bs:List gW}(kids:List Int):eJ bs kids [[]]=if (kids.foldl (g5 bs) (1,false)).2=true then none else some (q7 (kids.map fun k=>(dF bs k).vals).reverse):=by
 have:=FG (bs:=bs) kids [] (by simp[kE]);simp only[q7,kE,Wg] at this;rw[this,List.map_reverse];rfl
theorem SM{bs:List gW}{kids:List Int}{j:Nat}{k:Int}{a:Nat × Bool}(hk:kids[j]? = some k)(h:(kids.take j).foldl (g5 bs) (1,false)=a) :
  (kids.take (j+1)).foldl (g5 bs) (1,false)=g5 bs a k:=by
 obtain⟨hj,he⟩:=VX.1 hk;rw[List.take_succ_eq_append_getElem hj,WR,h,he];rfl
theorem QI{bs:List gW}{x:Nd}{j:Nat}(h:((x.kids.take j).foldl (g5 bs) (1,false)).2=true):o8 bs x=⟨[],true⟩:=by
 have e:(x.kids.foldl (g5 bs) (1,false)).2=true:=by
  conv=>lhs;rw[←List.take_append_drop j x.kids,WR]
  exact Gv _ _ h
 unfold o8;rw[IG,Vb e]
theorem N5{bs:List gW}:∀(kids:List Int) (a:Nat × Bool),(kids.foldl (g5 bs) a).1=a.1*kE (kids.map fun k=>(dF bs k).vals).reverse:=by
 intro kids;refine dT (P:=fun kids=>∀a:Nat × Bool,(kids.foldl (g5 bs) a).1=a.1*kE (kids.map fun k=>(dF bs k).vals).reverse) (fun a=>by simp[kE]) (fun l x ih a=>?_) kids;rw[WR,Wv,List.reverse_append];simp only[V1,Xi,WK,List.map_nil,List.reverse_singleton,List.singleton_append,kE];rw[g5,ih a,Nat.mul_assoc]
theorem Nx{bs:List gW}(hb:∀b∈bs,lN b.vals){x:Nd}{t:Nat}(h:x.kids.foldl (g5 bs) (1,false)=(t,false)) :
  o8 bs x=⟨(q7 (x.kids.map fun k=>(dF bs k).vals).reverse).map (dP x.name),false⟩/\t=kE (x.kids.map fun k=>(dF bs k).vals).reverse:=by
 have hr:eJ bs x.kids [[]]=some (q7 (x.kids.map fun k=>(dF bs k).vals).reverse):=by
  rw[IG,h];rfl
 refine⟨LN hb hr, ?_⟩;have:=N5 (bs:=bs) x.kids (1,false);rw[h] at this;simpa using this
theorem J0{ls:List (List a6)}{q kk:Nat}{l:List a6}{v:a6}(hl:ls[q]? = some l)(hv:l[kk%l.length]? = some v) :
  rowAt (ls.take (q+1)).reverse kk=rowAt (ls.take q).reverse (kk/l.length)++[v]:=by
 obtain⟨h1,h2⟩:=VX.1 hl;rw[List.take_succ_eq_append_getElem h1,List.reverse_append,h2];simp only[List.reverse_singleton,List.singleton_append,rowAt,hv];rfl
end Go.Ax
namespace Go.Ax
open Go
structure Mt where
 old:Nat
 now:Nat
 opts:List Int
 same:List Bool
def gU(l:List Bool):List AV:=l.map AV.bool
def Oo(m:Mt):AV:=.agg [.int .i64 m.old,.int .i64 m.now,.il 1 (aS m.opts),.il 1 (gU m.same)]
def nW(l:List Mt):List AV:=l.map Oo
theorem eB(l:List Bool):jZ (gU l):=fun a ha=>by
 obtain⟨n,_,rfl⟩:=Vq.1 ha;exact .bool _
theorem oO(l:List Bool):(gU l).length=l.length:=by simp[gU]
theorem Lc(l:List Bool)(i:Nat):(gU l)[i]? = (l[i]?).map AV.bool:=by rw[gU,Vy]
theorem PQ(m:Mt):NN (Oo m):=.agg' (.cons (.int _ _) (.cons (.int _ _) (.cons (.il' (aM _)) (.cons (.il' (eB _)) .nil))))
theorem dS(l:List Mt):jZ (nW l):=fun a ha=>by
 obtain⟨n,_,rfl⟩:=Vq.1 ha;exact PQ _
theorem oD(l:List Mt):(nW l).length=l.length:=by simp[nW]
theorem MC(l:List Mt)(i:Nat):(nW l)[i]? = (l[i]?).map Oo:=by rw[nW,Vy]
theorem Ja(l:List Mt)(m:Mt):nW (l++[m])=nW l++[Oo m]:=by simp[nW]
def yX(l:List a6)(v:a6):Int × Bool:=((kF l v).1,(kF l v).2)
def tF(x y:Nd):List (Int × Bool):=
 if x.kind=2/\y.kind=2 then(List.range x.kids.length).map fun k:Nat=>qO x y k
 else if x.kind=4/\y.kind=4 then x.values.map (yX y.values) else []
def aE(l:List Nd)(i:Nat):Nd:=l.getD i ⟨0,[],0,0,[],[],[],[],.mk 0 0 [] []⟩
theorem c7{l:List Nd}{i:Nat}{x:Nd}(h:l[i]? = some x):aE l i=x:=by unfold aE;rw[VW,h];rfl
def bA(y:Nd)(k:Int):Nat:=(y.kids.getD k.toNat 0).toNat
def s8(x y:Nd):List (Nat × Nat):=
 if x.kind≠y.kind then []
 else if x.kind=2 then(x.kids.zip (tF x y)).map fun p=>(p.1.toNat,bA y p.2.1)
 else if x.kind=3 then(x.kids.zip y.kids).map fun p=>(p.1.toNat,p.2.toNat)
 else if x.kind=4 then(bA x 0,bA y 0)::((x.kids.drop 1).zip (tF x y)).map fun p=>(p.1.toNat,bA y (p.2.1+1))
 else []
def iA(L:List Mt)(o n:Nat):Bool:=L.any fun m=>decide (m.old=o) && decide (m.now=n)
def Ow(x y:Nd)(o n:Nat):Mt:=⟨o,n,(tF x y).map (·.1),(tF x y).map (·.2)⟩
def iN(A B:List Nd):Nat->Nat->Nat->List Mt->List Mt
 | 0,_,_,L=>L
 | f+1,o,n,L=>if iA L o n=true then L else
   (s8 (aE A o) (aE B n)).foldl (fun L p=>iN A B f p.1 p.2 L) (L++[Ow (aE A o) (aE B n) o n])
def fD(A:List Nd):Bool:=decide (0<A.length) && decide (cL A=0)
def sY(A B:List Nd):List Mt:=if fD A=true/\fD B=true then iN A B A.length (A.length-1) (B.length-1) [] else []
def r8(x y:Nd):Bool:=(decide (x.kind=y.kind) && (decide (x.lo=y.lo) && (decide (x.hi=y.hi) && (decide (x.kids.length=y.kids.length) && decide (x.name=y.name))))) && decide (x.weights=y.weights) && decide (x.labels=y.labels) && dB x.values y.values && (cE x.value y.value == 0)
structure dZ(A:List Nd):Prop where
 ok:∀x∈A,n4 x
 val:∀x∈A,bF x.value<=1048576
 vals:∀x∈A,∀v∈x.values,bF v<=1048576
 vlen:∀x∈A,x.values.length<=2000
 klen:∀x∈A,x.kids.length<=2000
 llen:∀x∈A,x.labels.length<=1000
 lab:∀x∈A,∀s∈x.labels,s.length<=1000
 len:A.length<=1000
structure Qg(A:List Nd)(i:Nat)(x:Nd):Prop where
 opt:xP x
 node:F4 i x
 srt:lN x.values
 val:∀v∈x.values,gH v
theorem tT:∀{l:List a6},eE l=true->lN l
 | [],_=>by simp[lN]
 | [a],_=>by simp[lN]
 | a::b::r,h=>by
  simp only[eE,VZ,Vt] at h;have ih:=tT h.2;unfold lN at ih ⊢;refine WF.2 ⟨fun x hx=>?_,ih⟩;rcases Vg.1 hx with rfl|hx
  ·exact h.1
  ·have:=(WF.1 ih).1 x hx;exact Gx h.1 om
theorem goodT{A:List Nd}(h:dZ A)(hv:cL A=0){i:Nat}{x:Nd}(hx:A[i]? = some x):Qg A i x:=by
 have hxm:=Ve hx;have hv0:bU [] A=0:=by
  unfold cL at hv;split at hv
  ·omega
  ·exact hv
 have hn:=jK A hv0 i x hx;have hN:=kK hn;have hf:=iH hn;have hfp:=oE hf;have hk:=h.klen x hxm;refine⟨⟨h.ok x hxm,dD hN.num,om,fun e=>by have:=hN.klen om;omega,fun e=>?_⟩,hN, ?_,fun v hv=>((h.ok x hxm).valuesI v hv).1⟩
 ·refine⟨hfp.1 e, ?_⟩;unfold cP at hf;simp only[VZ,WN,Vt] at hf;rcases hf.1.1.1.2 with h2|h2
  ·exact absurd e h2
  ·exact h2.2
 ·unfold cP at hf;simp only[VZ] at hf;exact tT hf.2
theorem MN{a b:Nd}{k:Nat}(ha:xP a)(hb:xP b)(h:(yD a b k).2=true)(ha2:a.kind=2)(hb2:b.kind=2)(hk:k<a.kids.length):0<=(yD a b k).1/\(yD a b k).1<b.kids.length:=by
 unfold yD at h ⊢;rw[VY om,VY om] at h ⊢;split at h
 ·rename_i h1;rw[Vb h1];simp at h ⊢;omega
 ·rename_i h1;rw[VY h1];rw[not_or] at h1;have hbl:b.labels.length=b.kids.length:=by have:=(hb.ch hb2).2;omega
  split at h
  ·rename_i h2;rw[Vb h2];simp only;omega
  ·rename_i h2;rw[VY h2];simp only[Vt] at h ⊢;have:=xJ (s:=a.labels.getD k []) b.labels 0;unfold zZ at h ⊢;omega
theorem El{a b:Nd}{k:Nat}(ha:xP a)(hb:xP b)(ha2:a.kind=2)(hb2:b.kind=2)(hk:k<a.kids.length):0<=(qO a b k).1/\(qO a b k).1<b.kids.length:=by
 have h1:=(hb.ch hb2).1;have ea:dQ a=a.kids.length:=by unfold dQ;rw[VY om,Vb ha2]
 have eb:dQ b=b.kids.length:=by unfold dQ;rw[VY om,Vb hb2]
 unfold qO;rw[VY om,VY om,Va];split
 ·rename_i h;exact MN ha hb h ha2 hb2 hk
 ·rw[eb];simp only;omega
theorem Hb{v:a6}:∀{l:List a6},(cD l v).2=true->(cD l v).1<l.length
 | [],h=>by simp[cD] at h
 | a::r,h=>by
  simp only[cD] at h ⊢;split at h
  ·rename_i h1;rw[Vb h1];simp
  ·rename_i h1;have:=Hb (l:=r) h;rw[VY h1];simp only[WB];omega
theorem C2{l:List a6}(v:a6)(h:0<l.length):(kF l v).1<l.length:=by
 have hle:=rB l v;unfold kF;split
 ·rename_i hf;have:=Hb hf;exact this
 ·split
  ·simpa using h
  ·split
   ·rename_i a b e1 e2;have:=(VX.1 e2).1;split
    ·simp only;omega
    ·simp only;omega
   ·simp only;omega
theorem AQ{A:List Nd}(ho:∀x∈A,n4 x)(hv:cL A=0){i:Nat}{x:Nd}(hx:A[i]? = some x)(h4:x.kind=4):1<=x.values.length:=by
 have hv0:bU [] A=0:=by
  unfold cL at hv;split at hv
  ·omega
  ·exact hv
 have hi:=(VX.1 hx).1;have hpre:bU [] (A.take i)=0:=by
  have:=hv0;rw[←List.take_append_drop i A] at this;exact jG this
 obtain⟨q,hq,-⟩:=Fu (ns:=A.take i) (fun y hy=>ho y (WE hy)) hpre (x:=x) (.inr h4) (kM A hv0 i x hx);have hb:=(kK (jK A hv0 i x hx)).bind h4;unfold dU at hq;rw[VY om] at hq;have:=List.length_pos_of_mem hq;simp at this;omega
theorem CE{A:List Nd}{n:Nat}{y:Nd}(hy:F4 n y){k:Int}(h0:0<=k)(h1:k<y.kids.length):bA y k<n/\∃q:Int,y.kids[k.toNat]? = some q/\q=bA y k:=by
 have hk:k.toNat<y.kids.length:=om;obtain⟨a,b⟩:=hy.kids k.toNat _ (VV hk);unfold bA;rw[VW,VV hk];simp only[Wr];exact⟨om,_,rfl,om⟩
theorem Fs{x y:Nd}:(x.kind=2/\y.kind=2->(tF x y).length=x.kids.length)/\(x.kind=4/\y.kind=4->(tF x y).length=x.values.length):=by
 refine⟨fun h=>?_,fun h=>?_⟩
 ·unfold tF;rw[Vb h];simp
 ·unfold tF;rw[VY om,Vb h];simp
theorem Oq{x y:Nd}(h:x.kind=2/\y.kind=2){k:Nat}(hk:k<x.kids.length):(tF x y)[k]? = some (qO x y k):=by
 unfold tF;rw[Vb h,Vy,Xu hk];rfl
theorem MZ{x y:Nd}(h:x.kind=4/\y.kind=4){k:Nat}{v:a6}(hk:x.values[k]? = some v):(tF x y)[k]? = some (yX y.values v):=by
 unfold tF;rw[VY om,Vb h,Vy,hk];rfl
theorem GT{A B:List Nd}(hA:dZ A)(hB:dZ B)(vA:cL A=0)(vB:cL B=0){o n:Nat}{x y:Nd}(hx:A[o]? = some x)(hy:B[n]? = some y):∀p∈s8 x y,p.1<o/\p.2<n:=by
 have gx:=goodT hA vA hx;have gy:=goodT hB vB hy;have kx:∀k∈x.kids,0<=k/\k<o:=fun k hk=>by
  obtain⟨j,hj⟩:=V2 hk;exact gx.node.kids j k hj
 have ky:∀k∈y.kids,0<=k/\k<n:=fun k hk=>by
  obtain⟨j,hj⟩:=V2 hk;exact gy.node.kids j k hj
 intro p hp;unfold s8 at hp;split at hp
 ·simp at hp
 ·rename_i hk;have hk:x.kind=y.kind:=Decidable.not_not.1 hk;split at hp
  ·rename_i h2;obtain⟨⟨q,c⟩,hq,rfl⟩:=Vq.1 hp;have h1:=kx q (XE hq).1;have hc:=(XE hq).2;unfold tF at hc;rw[Vb ⟨h2,om⟩] at hc;obtain⟨j,hj,rfl⟩:=Vq.1 hc;have hr:=El gx.opt gy.opt h2 om (XA.1 hj);exact⟨by simp only;omega,(CE (A:=A) gy.node hr.1 hr.2).1⟩
  ·split at hp
   ·obtain⟨⟨q,c⟩,hq,rfl⟩:=Vq.1 hp;have h1:=kx q (XE hq).1;have h2:=ky c (XE hq).2;exact⟨by simp only;omega,by simp only;omega⟩
   ·split at hp
    ·rename_i h4;have bx:=gx.node.bind h4;have by_:=gy.node.bind om;have vy:=AQ hB.ok vB hy om;rcases Vg.1 hp with rfl|hp
     ·exact⟨(CE (A:=A) gx.node om om).1,(CE (A:=A) gy.node om om).1⟩
     ·obtain⟨⟨q,c⟩,hq,rfl⟩:=Vq.1 hp;have h1:=kx q (Wa (XE hq).1);have hc:=(XE hq).2;unfold tF at hc;rw[VY om,Vb ⟨h4,om⟩] at hc;obtain⟨v,hv,rfl⟩:=Vq.1 hc;have hr:=C2 (l:=y.values) v om;unfold yX;exact⟨by simp only;omega,(CE (A:=A) gy.node (by simp only;omega) (by simp only;omega)).1⟩
    ·simp at hp
def Mk(a b:Nat)(L:List Mt):Nat:=((List.range (a*b)).filter fun c=>!iA L (c/b) (c%b)).length
def tZ(a b:Nat)(L:List Mt):Prop:=L.length+Mk a b L<=a*b
theorem wB(L:List Mt)(m:Mt)(o n:Nat):iA (L++[m]) o n=(iA L o n || (decide (m.old=o) && decide (m.now=n))):=by simp[iA]
theorem K2(a b:Nat):tZ a b []:=by
 unfold tZ Mk;have:=List.length_filter_le (fun c=>!iA [] (c/b) (c%b)) (List.range (a*b));simp only[List.length_range,WZ] at this ⊢;omega
theorem Ih{a b:Nat}{L:List Mt}{m:Mt}(h:tZ a b L)(ho:m.old<a)(hn:m.now<b)(hi:iA L m.old m.now=false):tZ a b (L++[m]):=by
 unfold tZ Mk at h ⊢;have e:(List.range (a*b)).filter (fun c=>!iA (L++[m]) (c/b) (c%b))=((List.range (a*b)).filter fun c=>!iA L (c/b) (c%b)).filter (fun c=>!(decide (m.old=c/b) && decide (m.now=c%b))):=by
  rw[List.filter_filter];congr 1
  funext c
  rw[wB,Bool.not_or,Bool.and_comm]
 rw[e];have hlt:(((List.range (a*b)).filter fun c=>!iA L (c/b) (c%b)).filter (fun c=>!(decide (m.old=c/b) && decide (m.now=c%b)))).length<((List.range (a*b)).filter fun c=>!iA L (c/b) (c%b)).length:=by
  rw[List.length_filter_lt_length_iff_exists];have h1:(m.now+b*m.old)/b=m.old:=by rw[Nat.add_mul_div_left _ _ om,Nat.div_eq_of_lt hn];omega
  have h2:(m.now+b*m.old)%b=m.now:=by rw[Nat.add_mul_mod_self_left,Wq hn]
  refine⟨m.now+b*m.old,V4.2 ⟨XA.2 ?_, ?_⟩, ?_⟩
  ·have:b*(m.old+1)<=b*a:=Nat.mul_le_mul_left _ ho;rw[XU a b];rw[Nat.mul_add] at this;omega
  ·rw[h1,h2,hi];rfl
  ·rw[h1,h2];simp
 simp only[Vf,WC];omega
theorem v8{A B:List Nd}(hA:dZ A)(hB:dZ B)(vA:cL A=0)(vB:cL B=0):∀(f o n:Nat) (L:List Mt),o<A.length->n<B.length->tZ A.length B.length L->tZ A.length B.length (iN A B f o n L)
 | 0,_,_,_,_,_,h=>h
 | f+1,o,n,L,ho,hn,h=>by
  unfold iN;split
  ·exact h
  ·rename_i hi;have hx:=VV ho;have hy:=VV hn;have hp:=GT hA hB vA vB hx hy;rw[c7 hx,c7 hy];have h1:tZ A.length B.length (L++[Ow A[o] B[n] o n]):=Ih h ho hn (by simpa[Ow] using hi);generalize L++[Ow A[o] B[n] o n]=L1 at h1;generalize s8 A[o] B[n]=ps at hp
   induction ps generalizing L1 with
   | nil=>exact h1
   | cons p r ih=>
    simp only[V1];have h2:=hp p (by simp);exact ih _ (v8 hA hB vA vB f p.1 p.2 L1 om om h1) (fun q hq=>hp q (by simp[hq]))
theorem Ki{A B:List Nd}(hA:dZ A)(hB:dZ B){L:List Mt}(h:tZ A.length B.length L):L.length<=1000000:=by
 have:A.length*B.length<=1000*1000:=Wk hA.len hB.len;unfold tZ at h;omega
theorem GB{A B:List Nd}(hA:dZ A)(hB:dZ B)(vA:cL A=0)(vB:cL B=0):∀(f o n:Nat) (L:List Mt),o<A.length->n<B.length->(∀m∈L,m.old<A.length/\m.now<B.length)->∀m∈iN A B f o n L,m.old<A.length/\m.now<B.length
 | 0,_,_,_,_,_,h=>h
 | f+1,o,n,L,ho,hn,h=>by
  unfold iN;split
  ·exact h
  ·have hx:=VV ho;have hy:=VV hn;have hp:=GT hA hB vA vB hx hy;rw[c7 hx,c7 hy];have h1:∀m∈L++[Ow A[o] B[n] o n],m.old<A.length/\m.now<B.length:=fun m hm=>by
    rcases Vs.1 hm with hm|hm
    ·exact h m hm
    ·simp at hm;subst hm;exact⟨ho,hn⟩
   generalize L++[Ow A[o] B[n] o n]=L1 at h1;generalize s8 A[o] B[n]=ps at hp
   induction ps generalizing L1 with
   | nil=>exact h1
   | cons p r ih=>
    simp only[V1];have h2:=hp p (by simp);exact ih _ (GB hA hB vA vB f p.1 p.2 L1 om om h1) (fun q hq=>hp q (by simp[hq]))
theorem jT{A:List Nd}(h:fD A=true):0<A.length/\cL A=0:=by
 unfold fD at h;simp only[VZ,Vt] at h;exact h
theorem N8{A B:List Nd}(hA:dZ A)(hB:dZ B):∀m∈sY A B,m.old<A.length/\m.now<B.length:=by
 unfold sY;split
 ·rename_i h;obtain⟨a1,a2⟩:=jT h.1;obtain⟨b1,b2⟩:=jT h.2;exact GB hA hB a2 b2 _ _ _ _ om om (by simp)
 ·simp
theorem OQ{A B:List Nd}(hA:dZ A)(hB:dZ B):(sY A B).length<=1000000:=by
 unfold sY;split
 ·rename_i h;obtain⟨a1,a2⟩:=jT h.1;obtain⟨b1,b2⟩:=jT h.2;exact Ki hA hB (v8 hA hB a2 b2 _ _ _ _ om om (K2 _ _))
 ·simp
def Dz(A B:List Nd)(L:List Mt):Nat:=(L.filter fun m=>!r8 (aE A m.old) (aE B m.now)).length
def f6(A B:List Nd):Nat:=if fD A=true/\fD B=true then Dz A B (sY A B) else if A.length=0/\B.length=0 then 0 else 1
theorem Lt(A B:List Nd)(L:List Mt)(m:Mt):Dz A B (L++[m])=Dz A B L+if r8 (aE A m.old) (aE B m.now)=true then 0 else 1:=by
 unfold Dz;rw[List.filter_append,Vf];cases h:r8 (aE A m.old) (aE B m.now)<;>simp[h]
theorem QG(A B:List Nd)(L:List Mt):Dz A B L<=L.length:=List.length_filter_le _ _
theorem Af(a:a6):cE a a=0:=(lL a).refl
theorem lD{l:List a6}(h:lN l){x:a6}(hx:x∈l):∃k,cD l x=(k,true)/\k<l.length/\l[k]? = some x:=by
 obtain⟨k,hk,rfl⟩:=List.getElem_of_mem hx;have hg:l[k]? = some l[k]:=VV hk;refine⟨k, ?_,hk,hg⟩;rw[qS (Nat.le_of_lt hk) (fun p a hp ha=>lN.get h hp ha hg) (fun a ha=>by rw[hg] at ha;cases ha;rw[Af];omega)];unfold EC;rw[hg];simp[Af]
end Go.Ax
namespace Go.Ax
open Go
abbrev Sp:=Nat × Nat × Nat
def vZ:a6:=.mk 0 0 [] []
structure Az where
 val:a6
 used:Nat
 stop:Int
 spans:List Sp
structure Pt where
 used:Nat
 vals:List a6
 spans:List Sp
 stop:Int
def fK(x:Nd):Int:=if x.kind=1 then x.hi-x.lo+1 else x.kids.length
def bH(rd:Nat->Nat->Az)(a0:Nat):List Int->Pt->Pt
 | [],s=>s
 | k::ks,s=>
  if (rd k.toNat (a0+s.used)).stop = -1 then
   bH rd a0 ks ⟨s.used+(rd k.toNat (a0+s.used)).used,s.vals++[(rd k.toNat (a0+s.used)).val],s.spans++(a0,a0+s.used,a0+s.used+(rd k.toNat (a0+s.used)).used)::(rd k.toNat (a0+s.used)).spans,-1⟩
  else⟨s.used+(rd k.toNat (a0+s.used)).used,s.vals++[(rd k.toNat (a0+s.used)).val],s.spans++(a0,a0+s.used,a0+s.used+(rd k.toNat (a0+s.used)).used)::(rd k.toNat (a0+s.used)).spans,(rd k.toNat (a0+s.used)).stop⟩
def Dy(x:Nd)(s:Pt):Az:=⟨if s.stop = -1 then dP x.name s.vals else vZ,s.used,s.stop,s.spans⟩
def a7(A:List Nd)(p:List Int):Nat->Nat->Nat->Az
 | 0,_,_=>⟨vZ,0,-2,[]⟩
 | f+1,i,a0=>
  if (aE A i).kind=0 then⟨(aE A i).value,0,-1,[]⟩
  else if (aE A i).kind=3 then Dy (aE A i) (bH (fun k q=>a7 A p f k q) a0 (aE A i).kids ⟨0,[],[],-1⟩)
  else if (aE A i).kind=4 then
   if (a7 A p f (bA (aE A i) 0) a0).stop = -1 then
    ⟨(a7 A p f (bA (aE A i) ((cD (aE A i).values (a7 A p f (bA (aE A i) 0) a0).val).1+1:Nat)) (a0+(a7 A p f (bA (aE A i) 0) a0).used)).val,
     (a7 A p f (bA (aE A i) 0) a0).used+(a7 A p f (bA (aE A i) ((cD (aE A i).values (a7 A p f (bA (aE A i) 0) a0).val).1+1:Nat)) (a0+(a7 A p f (bA (aE A i) 0) a0).used)).used,
     (a7 A p f (bA (aE A i) ((cD (aE A i).values (a7 A p f (bA (aE A i) 0) a0).val).1+1:Nat)) (a0+(a7 A p f (bA (aE A i) 0) a0).used)).stop,
     (a7 A p f (bA (aE A i) 0) a0).spans++(a7 A p f (bA (aE A i) ((cD (aE A i).values (a7 A p f (bA (aE A i) 0) a0).val).1+1:Nat)) (a0+(a7 A p f (bA (aE A i) 0) a0).used)).spans⟩
   else a7 A p f (bA (aE A i) 0) a0
  else if p.length<=a0 then⟨vZ,0,i,[]⟩
  else if p.getD a0 0<0∨fK (aE A i)<=p.getD a0 0 then⟨vZ,0,-2,[]⟩
  else if (aE A i).kind=1 then⟨.mk 0 ((aE A i).lo+p.getD a0 0) [] [],1,-1,[]⟩
  else⟨(a7 A p f (bA (aE A i) (p.getD a0 0)) (a0+1)).val,(a7 A p f (bA (aE A i) (p.getD a0 0)) (a0+1)).used+1,(a7 A p f (bA (aE A i) (p.getD a0 0)) (a0+1)).stop,(a7 A p f (bA (aE A i) (p.getD a0 0)) (a0+1)).spans⟩
structure VT(A:List Nd):Prop where
 tin:dZ A
 val:cL A=0
 pos:0<A.length
section
variable {A:List Nd}
theorem VT.v0(h:VT A):bU [] A=0:=by
 have hv:=h.val;unfold cL at hv;split at hv
 ·omega
 ·exact hv
theorem VT.set(h:VT A):iB A A.length:=⟨Vh _,by have:=h.tin.len;omega,h.tin.ok,by rw[Vr];exact h.v0⟩
theorem VT.node(h:VT A){i:Nat}{x:Nd}(hx:A[i]? = some x):Qg A i x:=goodT h.tin h.val hx
theorem bY{i:Nat}(hi:i<A.length):A[i]? = some (aE A i):=by
 unfold aE;rw[VW,VV hi];rfl
theorem VT.kid(h:VT A){i:Nat}{x:Nd}(hx:A[i]? = some x){j:Nat}(hj:j<x.kids.length):bA x j<i/\x.kids[j]? = some (bA x j:Int):=by
 have hi:=(VX.1 hx).1;obtain⟨h1,q,h2,h3⟩:=CE (A:=A) (h.node hx).node (k:=(j:Int)) om om;refine⟨h1, ?_⟩;rw[Va] at h2;rw[h2,h3]
theorem VT.lst(h:VT A){i:Nat}{x:Nd}(hx:A[i]? = some x):dF (aT A) i=cU x (aT A):=h.set.at (VX.1 hx).1 hx
theorem Ae:∀{l m:List a6},dB l m=true->l=m
 | [],[],_=>rfl
 | a::l,b::m,h=>by
  simp only[dB,VZ,Vt] at h;rw[Ef a b h.1,Ae h.2]
 | [],b::m,h=>by simp[dB] at h
 | a::l,[],h=>by simp[dB] at h
theorem VT.bind(h:VT A){i:Nat}{x:Nd}(hx:A[i]? = some x)(h4:x.kind=4):x.kids.length=x.values.length+1/\1<=x.values.length/\(dF (aT A) (bA x 0)).many=false/\(dF (aT A) (bA x 0)).vals=x.values:=by
 have hi:=(VX.1 hx).1;have hb:=(h.node hx).node.bind h4;have h1:=AQ h.tin.ok h.val hx h4;refine⟨hb,h1, ?_⟩;obtain⟨k1,k2⟩:bA x 0<i/\x.kids[0]? = some (bA x 0:Int):=h.kid hx (j:=0) om;have hs:=(f7 (kM A h.v0 i x hx)).2.2.2 h4;have e0:x.kids.getD 0 0=(bA x 0:Int):=by rw[VW,k2];rfl
 unfold iJ at hs;rw[e0,Va,XL,Wh om,kV om om om] at hs;simp only at hs;split at hs
 ·omega
 ·rename_i hm;split at hs
  ·rename_i hsv;exact⟨by simpa using hm,Ae hsv⟩
  ·omega
end
def KE(bs:List gW):List Int->List a6->Prop
 | [],[]=>True
 | k::ks,v::vs=>((dF bs k).many=false->v∈(dF bs k).vals)/\KE bs ks vs
 | _,_=>False
theorem Ex{bs:List gW}:∀(ks:List Int) (vs:List a6) (rows out:List (List a6)) (r:List a6),eJ bs ks rows=some out->r∈rows->KE bs ks vs->r++vs∈out
 | [],[],rows,out,r,h,hr,_=>by simp only[eJ] at h;cases h;simpa using hr
 | [],v::vs,rows,out,r,h,hr,ha=>ha.elim
 | k::ks,[],rows,out,r,h,hr,ha=>ha.elim
 | k::ks,v::vs,rows,out,r,h,hr,ha=>by
  simp only[eJ] at h;split at h
  ·cases h
  ·rename_i hm;rw[not_or] at hm;have hv:=ha.1 (by simpa using hm.1);have:=Ex ks vs _ out (r++[v]) h (by
    unfold gO;exact X6.2 ⟨r,hr,Vq.2 ⟨v,hv,rfl⟩⟩) ha.2
   simpa using this
theorem Hx{bs:List gW}:∀(ks:List Int) (a:List a6 × Bool),(ks.foldl (bL bs) a).2=false->(∀v∈a.1,v∈(ks.foldl (bL bs) a).1)/\∀k∈ks,(dF bs k).many=false/\∀v∈(dF bs k).vals,v∈(ks.foldl (bL bs) a).1
 | [],a,h=>⟨fun v hv=>hv,fun k hk=>by simp at hk⟩
 | k::ks,a,h=>by
  rw[V1] at h ⊢;obtain⟨h1,h2⟩:=Hx ks _ h;have hs:(bL bs a k).2=false:=by
   cases e:(bL bs a k).2 with
   | false=>rfl
   | true=>rw[zX _ _ e] at h;cases h
  simp only[bL,XF] at hs;refine⟨fun v hv=>h1 v (by simp only[bL];rw[oX];exact V8 _ hv),fun q hq=>?_⟩;rcases Vg.1 hq with rfl|hq
  ·exact⟨hs.1.2,fun v hv=>h1 v (by simp only[bL];rw[oX];exact WT _ hv)⟩
  ·exact h2 q hq
theorem HL{bs:List gW}{ks:List Int}{k:Int}{v:a6}(hk:k∈ks)(hm:(jW bs ks).many=false)(hv:(dF bs k).many=false->v∈(dF bs k).vals):v∈(jW bs ks).vals:=by
 unfold jW at hm ⊢;split at hm
 ·simp at hm
 ·rename_i h2;have h2:(ks.foldl (bL bs) ([],false)).2=false:=by simpa using h2
  rw[VY (by rw[h2];simp)];obtain⟨h3,h4⟩:=(Hx ks _ h2).2 k hk;exact h4 v (hv h3)
theorem B7{n:List UInt8}{vs:List a6}(hn:n.length<=4294967296)(hl:vs.length<=4294967296)(h:∀v∈vs,gH v):gH (dP n vs):=by
 have z:∀k:Int,0<=k->k<=3->i64 k:=fun k h1 h2=>⟨om,om⟩
 unfold dP;split
 ·exact mL (z 2 om om) (z 0 om om) (by simp) hl (p5 h)
 ·exact mL (z 3 om om) (z 0 om om) hn hl (p5 h)
theorem H4{rd:Nat->Nat->Az}{a0:Nat}{bs:List gW}:∀(ks:List Int) (s:Pt),(∀k∈ks,∀q,(rd k.toNat q).stop = -1->gH (rd k.toNat q).val/\((dF bs k).many=false->(rd k.toNat q).val∈(dF bs k).vals))->(∀v∈s.vals,gH v)->(bH rd a0 ks s).stop = -1 ->
  ∃vs,(bH rd a0 ks s).vals=s.vals++vs/\KE bs ks vs/\∀v∈vs,gH v
 | [],s,_,_,_=>⟨[],by simp[bH],trivial,by simp⟩
 | k::ks,s,hr,hs,h=>by
  simp only[bH] at h ⊢;split at h
  ·rename_i hst;rw[Vb hst];obtain⟨o1,o2⟩:=hr k (Vu ..) _ hst;obtain⟨vs,h1,h2,h3⟩:=H4 ks _ (fun q hq=>hr q (Vn _ hq)) (fun v hv=>by
    rcases Vs.1 hv with hv|hv
    ·exact hs v hv
    ·simp at hv;rw[hv];exact o1) h
   refine⟨(rd k.toNat (a0+s.used)).val::vs,by rw[h1];simp,⟨o2,h2⟩,fun v hv=>?_⟩
   ·rcases Vg.1 hv with rfl|hv
    ·exact o1
    ·exact h3 v hv
  ·rename_i hst;exact absurd h hst
end Go.Ax
namespace Go.Ax
open Go
theorem dW{A:List Nd}(h:VT A){i:Nat}{x:Nd}(hx:A[i]? = some x){k:Int}(hk:k∈x.kids):0<=k/\k.toNat<i:=by
 obtain⟨j,hj⟩:=V2 hk;have:=(h.node hx).node.kids j k hj;omega
theorem VT.kidI{A:List Nd}(h:VT A){i:Nat}{x:Nd}(hx:A[i]? = some x){c:Int}(h0:0<=c)(h1:c<x.kids.length):bA x c<i/\(bA x c:Int)∈x.kids/\x.kids[c.toNat]? = some (bA x c:Int):=by
 obtain⟨j,rfl⟩:=Vk h0;obtain⟨k1,k2⟩:=h.kid hx (j:=j) om;exact⟨k1,Ve k2,by rw[Va];exact k2⟩
theorem mJ{A:List Nd}(h:VT A)(p:List Int):∀f i a0,i<f->i<A.length->(a7 A p f i a0).stop = -1->gH (a7 A p f i a0).val/\((dF (aT A) i).many=false->(a7 A p f i a0).val∈(dF (aT A) i).vals)
 | 0,i,a0,hf,hi,hs=>om
 | f+1,i,a0,hf,hi,hs=>by
  have hx:=bY hi;have hg:=h.node hx;have hN:=hg.node;have hok:=h.tin.ok _ (Ve hx);have hkm:=fun(k:Int) (hk:k∈(aE A i).kids)=>dW h hx hk
  have hkI:=fun(c:Int) (h0:0<=c) (h1:c<(aE A i).kids.length)=>h.kidI hx h0 h1
  have hbi:=fun h4=>h.bind hx h4
  rw[h.lst hx];simp only[a7] at hs ⊢;have ih:=fun(k:Nat) (a:Nat) (hk:k<i)=>mJ h p f k a om om
  generalize aE A i=x at *;by_cases k0:x.kind=0
  ·rw[Vb k0];refine⟨hok.value,fun _=>?_⟩;unfold cU;rw[Vb k0];simp
  rw[VY k0] at hs ⊢;by_cases k3:x.kind=3
  ·rw[Vb k3] at hs ⊢;simp only[Dy] at hs ⊢;rw[Vb hs];obtain⟨vs,h1,h2,h3⟩:=H4 (bs:=aT A) x.kids ⟨0,[],[],-1⟩ (fun k hk q hst=>by
    have:=hkm k hk;have hi2:=ih k.toNat q this.2 hst
    rwa [show ((k.toNat:Nat):Int)=k by omega] at hi2) (by simp) hs
   rw[h1];simp only[WG];have hlen:vs.length=x.kids.length:=by
    have:∀(ks:List Int) (vs:List a6),KE (aT A) ks vs->vs.length=ks.length:=by
     intro ks
     induction ks with
     | nil=>intro vs h;cases vs with
      | nil=>rfl
      | cons v vs=>exact h.elim
     | cons k ks ih=>intro vs h;cases vs with
      | nil=>exact h.elim
      | cons v vs=>simp[ih vs h.2]
    exact this _ _ h2
   refine⟨B7 (by have:=hok.name;omega) (by have:=hok.kids;omega) h3,fun hm=>?_⟩;unfold cU at hm ⊢;rw[VY k0,VY om,Vb k3] at hm ⊢;unfold o8 at hm ⊢;split at hm
   ·simp at hm
   ·rename_i rows hr;simp only;rw[oX];exact Vq.2 ⟨vs,by simpa using Ex x.kids vs [[]] rows [] hr (by simp) h2,rfl⟩
  rw[VY k3] at hs ⊢;by_cases k4:x.kind=4
  ·rw[Vb k4] at hs ⊢;obtain⟨b1,b2,b3,b4⟩:=hbi k4;split at hs
   ·rename_i hst;rw[Vb hst];simp only at hs ⊢;obtain⟨c1,-,-⟩:=hkI 0 om om;obtain⟨-,m1⟩:=ih _ a0 c1 hst;have m1:=m1 b3;rw[b4] at m1;obtain⟨q,fq,q1,q2⟩:=lD hg.srt m1;rw[fq] at hs ⊢;simp only at hs ⊢;obtain⟨d1,d2,d3⟩:=hkI ((q+1:Nat):Int) om om;obtain⟨e1,e2⟩:=ih _ _ d1 hs;refine⟨e1,fun hm=>?_⟩;unfold cU at hm ⊢;rw[VY k0,VY om,VY k3,Vb k4] at hm ⊢;refine HL (k:=(bA x ((q+1:Nat):Int):Int)) ?_ hm e2;rw[Va] at d3;refine Ve (i:=q) ?_;rw[V9,Xw];exact d3
   ·rename_i hst;exact absurd hs hst
  rw[VY k4] at hs ⊢;split at hs
  ·simp at hs
  rename_i hp;rw[VY hp];split at hs
  ·simp at hs
  rename_i hc;rw[VY hc];rw[not_or] at hc;by_cases k1:x.kind=1
  ·rw[Vb k1] at hs ⊢;simp only;have ho:fK x=x.hi-x.lo+1:=by unfold fK;rw[Vb k1]
   have hr:=dD hN.num;generalize p.getD a0 0=c at *;refine⟨iP ⟨om,om⟩ ⟨om,om⟩,fun hm=>?_⟩;unfold cU at hm ⊢;rw[VY k0,Vb k1] at hm ⊢;split at hm
   ·simp at hm
   ·rename_i hr;rw[VY hr];simp only[hZ];exact Vq.2 ⟨c.toNat,XA.2 om,by rw[XK om]⟩
  ·rw[VY k1] at hs ⊢;simp only at hs ⊢;have ho:fK x=x.kids.length:=by unfold fK;rw[VY k1]
   have hk2:=hN.kind;obtain⟨d1,d2,d3⟩:=hkI (p.getD a0 0) om om;obtain⟨e1,e2⟩:=ih _ _ d1 hs;refine⟨e1,fun hm=>?_⟩;unfold cU at hm ⊢;rw[VY k0,VY k1,VY k3,VY om] at hm ⊢;exact HL d2 hm e2
def MW(a b:Nat)(l:List Sp):Prop:=∀s∈l,a<=s.1/\s.1<=s.2.1/\s.2.1<=s.2.2/\s.2.2<=b
theorem MW.mono{a b a' b':Nat}{l:List Sp}(h:MW a b l)(h1:a'<=a)(h2:b<=b'):MW a' b' l:=fun s hs=>by
 have:=h s hs;omega
theorem MW.app{a b:Nat}{l m:List Sp}(h:MW a b l)(h':MW a b m):MW a b (l++m):=fun s hs=>by
 rcases Vs.1 hs with hs|hs
 ·exact h s hs
 ·exact h' s hs
theorem If{rd:Nat->Nat->Az}{a0 n:Nat}(hr:∀(k q:Nat),q<=n->q+(rd k q).used<=n/\MW q (q+(rd k q).used) (rd k q).spans):∀(ks:List Int) (s:Pt),a0+s.used<=n->MW a0 (a0+s.used) s.spans->a0+(bH rd a0 ks s).used<=n/\MW a0 (a0+(bH rd a0 ks s).used) (bH rd a0 ks s).spans
 | [],s,h1,h2=>⟨h1,h2⟩
 | k::ks,s,h1,h2=>by
  simp only[bH];obtain⟨g1,g2⟩:=hr k.toNat (a0+s.used) h1;have g3:MW a0 (a0+(s.used+(rd k.toNat (a0+s.used)).used)) (s.spans++(a0,a0+s.used,a0+s.used+(rd k.toNat (a0+s.used)).used)::(rd k.toNat (a0+s.used)).spans):=by
   refine(h2.mono (Vh _) om).app fun t ht=>?_
   rcases Vg.1 ht with rfl|ht
   ·simp only;omega
   ·have:=g2 t ht;omega
  split
  ·exact If hr ks _ (by simp only;omega) g3
  ·exact⟨by simp only;omega,g3⟩
theorem Fh{A:List Nd}(p:List Int):∀f i a0,a0<=p.length->a0+(a7 A p f i a0).used<=p.length/\MW a0 (a0+(a7 A p f i a0).used) (a7 A p f i a0).spans
 | 0,i,a0,ha=>⟨ha,fun s hs=>by simp[a7] at hs⟩
 | f+1,i,a0,ha=>by
  have ih:=Fh (A:=A) p f;simp only[a7];split
  ·exact⟨ha,fun s hs=>by simp at hs⟩
  split
  ·exact If (fun k q hq=>ih k q hq) _ _ ha fun s hs=>by simp at hs
  split
  ·split
   ·obtain⟨g1,g2⟩:=ih (bA (aE A i) 0) a0 ha;obtain⟨g3,g4⟩:=ih (bA (aE A i) ((cD (aE A i).values (a7 A p f (bA (aE A i) 0) a0).val).1+1:Nat)) _ g1;refine⟨by simp only;omega, ?_⟩;exact(g2.mono (Vh _) (by simp only;omega)).app (g4.mono om (by simp only;omega))
   ·exact ih _ a0 ha
  split
  ·exact⟨ha,fun s hs=>by simp at hs⟩
  rename_i hp;split
  ·exact⟨ha,fun s hs=>by simp at hs⟩
  split
  ·exact⟨by simp only;omega,fun s hs=>by simp at hs⟩
  ·obtain⟨g1,g2⟩:=ih (bA (aE A i) (p.getD a0 0)) (a0+1) om;exact⟨by simp only;omega,g2.mono om (by simp only;omega)⟩
end Go.Ax
namespace Go.Ax
open Go
theorem Lf(r:List Nd):∀l:List Nd,∃m,aX (l++r)=aX l++m:=by
 refine dT (P:=fun r=>∀l:List Nd,∃m,aX (l++r)=aX l++m) (fun l=>⟨[],by simp⟩) (fun r x ih l=>?_) r;obtain⟨m,hm⟩:=ih l;refine⟨m++[d9 (aX (l++r)) x], ?_⟩;rw[←List.append_assoc,iG,hm,List.append_assoc]
theorem AX{A:List Nd}{n:Nat}{k:Int}(h0:0<=k)(h:k<n)(hn:n<=A.length):dR (aX (A.take n)) k=dR (aX A) k:=by
 obtain⟨m,hm⟩:=Lf (A.drop n) (A.take n);rw[List.take_append_drop] at hm;rw[hm,KI h0 (by rw[fS,V3];omega)]
def yF(ls:List Int)(fs:List a6)(x:Nd):a6:=
 if 0<d9 ls x then vZ else if x.kind=0 then x.value else if x.kind=3 then dP x.name (x.kids.map fun k=>fs.getD k.toNat vZ) else if x.kind=4 then fs.getD (bA x 1) vZ else vZ
def Lx(nodes:List Nd):List Int × List a6:=nodes.foldl (fun s x=>(s.1++[d9 s.1 x],s.2++[yF s.1 s.2 x])) ([],[])
def cS(nodes:List Nd):List a6:=(Lx nodes).2
theorem Ny(l:List Nd):(Lx l).1=aX l:=by
 refine dT (P:=fun l=>(Lx l).1=aX l) rfl (fun l x ih=>?_) l;rw[iG,←ih];unfold Lx;rw[WR];rfl
theorem vN(l:List Nd)(x:Nd):cS (l++[x])=cS l++[yF (aX l) (cS l) x]:=by
 rw[←Ny];unfold cS Lx;rw[WR];rfl
theorem jJ(l:List Nd):(cS l).length=l.length:=by
 refine dT (P:=fun l=>(cS l).length=l.length) rfl (fun l x ih=>?_) l;rw[vN];simp[ih]
theorem Ms(r:List Nd):∀l:List Nd,∃m,cS (l++r)=cS l++m:=by
 refine dT (P:=fun r=>∀l:List Nd,∃m,cS (l++r)=cS l++m) (fun l=>⟨[],by simp⟩) (fun r x ih l=>?_) r;obtain⟨m,hm⟩:=ih l;refine⟨m++[yF (aX (l++r)) (cS (l++r)) x], ?_⟩;rw[←List.append_assoc,vN,hm,List.append_assoc]
def D4(l:List a6)(k:Nat):a6:=l.getD k vZ
theorem O2{l m:List a6}{k:Nat}(h:k<l.length):D4 (l++m) k=D4 l k:=by
 unfold D4;rw[VW,VW,Vp h]
theorem De{A:List Nd}{n k:Nat}(h:k<n)(hn:n<=A.length):D4 (cS (A.take n)) k=D4 (cS A) k:=by
 obtain⟨m,hm⟩:=Ms (A.drop n) (A.take n);rw[List.take_append_drop] at hm;rw[hm,O2 (by rw[jJ,V3];omega)]
def AA(ls:List Int)(ps:List Bool)(x:Nd):Bool:=decide (d9 ls x<=0) && (decide (x.kind≠3) || decide (x.kids.length=0)) && x.kids.all fun k=>ps.getD k.toNat false
def MI(nodes:List Nd):List Int × List Bool:=nodes.foldl (fun s x=>(s.1++[d9 s.1 x],s.2++[AA s.1 s.2 x])) ([],[])
def cY(nodes:List Nd):List Bool:=(MI nodes).2
theorem Mn(l:List Nd):(MI l).1=aX l:=by
 refine dT (P:=fun l=>(MI l).1=aX l) rfl (fun l x ih=>?_) l;rw[iG,←ih];unfold MI;rw[WR];rfl
theorem vS(l:List Nd)(x:Nd):cY (l++[x])=cY l++[AA (aX l) (cY l) x]:=by
 rw[←Mn];unfold cY MI;rw[WR];rfl
theorem jL(l:List Nd):(cY l).length=l.length:=by
 refine dT (P:=fun l=>(cY l).length=l.length) rfl (fun l x ih=>?_) l;rw[vS];simp[ih]
theorem NS(r:List Nd):∀l:List Nd,∃m,cY (l++r)=cY l++m:=by
 refine dT (P:=fun r=>∀l:List Nd,∃m,cY (l++r)=cY l++m) (fun l=>⟨[],by simp⟩) (fun r x ih l=>?_) r;obtain⟨m,hm⟩:=ih l;refine⟨m++[AA (aX (l++r)) (cY (l++r)) x], ?_⟩;rw[←List.append_assoc,vS,hm,List.append_assoc]
def MS(l:List Bool)(k:Nat):Bool:=l.getD k false
theorem PZ{l m:List Bool}{k:Nat}(h:k<l.length):MS (l++m) k=MS l k:=by
 unfold MS;rw[VW,VW,Vp h]
theorem H0{A:List Nd}{n k:Nat}(h:k<n)(hn:n<=A.length):MS (cY (A.take n)) k=MS (cY A) k:=by
 obtain⟨m,hm⟩:=NS (A.drop n) (A.take n);rw[List.take_append_drop] at hm;rw[hm,PZ (by rw[jL,V3];omega)]
section
variable {A:List Nd}
theorem VT.lenC(h:VT A){i:Nat}{x:Nd}(hx:A[i]? = some x){n:Nat}(hi:i<=n)(hn:n<=A.length):d9 (aX (A.take n)) x=d9 (aX A) x:=by
 refine xO (fun k hk=>?_) (fun h4=>by have:=(h.bind hx h4).1;omega) (h.node hx).node.kind;have:=dW h hx hk;exact AX this.1 om hn
theorem VT.len(h:VT A){i:Nat}{x:Nd}(hx:A[i]? = some x):dR (aX A) i=d9 (aX A) x:=by
 obtain⟨hi,he⟩:=VX.1 hx;rw[←AX (n:=i+1) om om om,List.take_succ_eq_append_getElem hi,iG,he,h.lenC hx (Vh _) om];unfold dR;rw[Va,VW,Vx (by rw[fS];simp;omega),fS];simp[show min i A.length=i by omega]
theorem VT.lens0(h:VT A)(k:Int):0<=dR (aX A) k/\dR (aX A) k<=1024:=by
 unfold dR;rw[VW];cases e:(aX A)[k.toNat]? with
 | none=>simp
 | some b=>exact(i6 A h.v0).1 b (Ve e)
theorem VT.fixC(h:VT A){i:Nat}{x:Nd}(hx:A[i]? = some x){n:Nat}(hi:i<=n)(hn:n<=A.length):yF (aX (A.take n)) (cS (A.take n)) x=yF (aX A) (cS A) x:=by
 unfold yF;rw[h.lenC hx hi hn];split
 ·rfl
 split
 ·rfl
 split
 ·congr 1;refine List.map_congr_left fun k hk=>?_
  have:=dW h hx hk;exact De om hn
 split
 ·rename_i h4;obtain⟨b1,b2,-⟩:=h.bind hx h4;have:bA x ((1:Nat):Int)<i:=(h.kid hx (j:=1) om).1;exact De (show bA x 1<n by have:bA x 1<i:=this;omega) hn
 ·rfl
theorem VT.fix(h:VT A){i:Nat}{x:Nd}(hx:A[i]? = some x):D4 (cS A) i=yF (aX A) (cS A) x:=by
 obtain⟨hi,he⟩:=VX.1 hx;rw[←De (n:=i+1) om om,List.take_succ_eq_append_getElem hi,vN,he,h.fixC hx (Vh _) om];unfold D4;rw[VW,Vx (by rw[jJ];simp;omega),jJ];simp[show min i A.length=i by omega]
theorem VT.plnC(h:VT A){i:Nat}{x:Nd}(hx:A[i]? = some x){n:Nat}(hi:i<=n)(hn:n<=A.length):AA (aX (A.take n)) (cY (A.take n)) x=AA (aX A) (cY A) x:=by
 unfold AA;rw[h.lenC hx hi hn];congr 1;rw[V5,WW,WW];have e:∀k∈x.kids,(cY (A.take n)).getD k.toNat false=(cY A).getD k.toNat false:=fun k hk=>by
  have:=dW h hx hk;exact H0 om hn
 exact⟨fun g k hk=>by rw[←e k hk];exact g k hk,fun g k hk=>by rw[e k hk];exact g k hk⟩
theorem VT.pln(h:VT A){i:Nat}{x:Nd}(hx:A[i]? = some x):MS (cY A) i=AA (aX A) (cY A) x:=by
 obtain⟨hi,he⟩:=VX.1 hx;rw[←H0 (n:=i+1) om om,List.take_succ_eq_append_getElem hi,vS,he,h.plnC hx (Vh _) om];unfold MS;rw[VW,Vx (by rw[jL];simp;omega),jL];simp[show min i A.length=i by omega]
theorem LQ{b:List Int}(hb:∀k,0<=dR b k):∀(l:List Int),fB b l=0->∀k∈l,dR b k=0:=by
 have key:∀(l:List Int) (s:Int),0<=s->l.foldl (fun s k=>s+dR b k) s=0->s=0/\∀k∈l,dR b k=0:=by
  intro l
  induction l with
  | nil=>intro s h0 h;exact⟨h,by simp⟩
  | cons k l ih=>
   intro s h0 h;rw[V1] at h;have hk:=hb k;obtain⟨h1,h2⟩:=ih _ om h;refine⟨om,fun q hq=>?_⟩;rcases Vg.1 hq with rfl|hq
   ·omega
   ·exact h2 q hq
 exact fun l h=>(key l 0 (Int.le_refl _) h).2
theorem VT.len0(h:VT A){i:Nat}{x:Nd}(hx:A[i]? = some x)(h0:dR (aX A) i=0):x.kind≠1/\x.kind≠2/\(x.kind=3->∀k∈x.kids,dR (aX A) k=0) /\
  (x.kind=4->dR (aX A) (bA x 0)=0/\∀k∈x.kids.drop 1,dR (aX A) k=0):=by
 rw[h.len hx] at h0;have hb:=fun k=>(h.lens0 k).1
 unfold d9 at h0;refine⟨fun e=>?_,fun e=>?_,fun e=>?_,fun e=>?_⟩
 ·rw[VY om,Vb e] at h0;omega
 ·rw[VY om,VY om,VY om,Vb e] at h0;have:=(gP (b:=aX A) (M:=1024) om (i6 A h.v0).1 (dU x)).1;omega
 ·rw[VY om,VY om,Vb e] at h0;exact LQ hb _ h0
 ·rw[VY om,VY om,VY om,VY om] at h0;have hm:=(gP (b:=aX A) (M:=1024) om (i6 A h.v0).1 (dU x)).1;have hk:(x.kids.getD 0 0)=(bA x 0:Int):=by
   have:=(h.bind hx e).1;have h2:x.kids[0]? = some (bA x 0:Int):=(h.kid hx (j:=0) om).2;rw[VW,h2];rfl
  rw[hk] at h0;have:=hb (bA x 0);refine⟨om,fun k hk=>?_⟩;have ha:k∈dU x:=by unfold dU;rw[VY om];exact hk
  have h1:=(pN (ss:=aX A) (dU x) 0 k ha).1;have h1:dR (aX A) k<=cQ (aX A) (dU x):=h1;have:=hb k;omega
theorem E1(v:a6):eR [v]=[v]:=by simp[eR,uI,cD]
theorem G1{bs:List gW}{g:Int->a6}:∀(ks:List Int) (r:List a6),(∀k∈ks,dF bs k=⟨[g k],false⟩)->eJ bs ks [r]=some [r++ks.map g]
 | [],r,_=>by simp[eJ]
 | k::ks,r,h=>by
  simp only[eJ];rw[h k (Vu ..)];rw[VY (by simp)];simp only[gO,W4,List.flatMap_nil,WK,List.map_nil,Wg];rw[G1 ks (r++[g k]) fun q hq=>h q (Vn _ hq)];simp
theorem OM(h:VT A):∀i,i<A.length->dR (aX A) i=0->dF (aT A) i=⟨[D4 (cS A) i],false⟩:=by
 intro i
 induction i using Nat.strongRecOn with
 | ind i ih=>
  intro hi h0;have hx:=bY hi;have hkm:=fun(k:Int) (hk:k∈(aE A i).kids)=>dW h hx hk
  obtain⟨l1,l2,l3,l4⟩:=h.len0 hx h0;have hbi:=fun h4=>h.bind hx h4
  have hkd:=fun(j:Nat) (hj:j<(aE A i).kids.length)=>h.kid hx hj
  have hkind:=(h.node hx).node.kind;rw[h.lst hx,h.fix hx];rw[h.len hx] at h0;generalize aE A i=x at *;have ihk:∀k:Int,k∈x.kids->dR (aX A) k=0->dF (aT A) k=⟨[(cS A).getD k.toNat vZ],false⟩:=fun k hk hz=>by
   have:=hkm k hk;have e:=ih k.toNat this.2 om (by rw[show ((k.toNat:Nat):Int)=k by omega];exact hz)
   rwa [show ((k.toNat:Nat):Int)=k by omega] at e
  unfold cU yF;rw[VY (show ¬0<d9 (aX A) x by omega)];by_cases k0:x.kind=0
  ·rw[Vb k0,Vb k0]
  rw[VY k0,VY k0,VY l1];by_cases k3:x.kind=3
  ·rw[Vb k3,Vb k3];unfold o8;rw[G1 x.kids [] fun k hk=>ihk k hk (l3 k3 k hk)];simp[E1]
  rw[VY k3,VY k3];have k4:x.kind=4:=om;rw[Vb k4,Vb k4];obtain⟨b1,b2,b3,b4⟩:=hbi k4;obtain⟨m1,m2⟩:=l4 k4;have e0:=hkd 0 om;have e0':x.kids[0]? = some (bA x 0:Int):=e0.2;have e1:=hkd 1 om;have e1':x.kids[1]? = some (bA x 1:Int):=e1.2;have hz:=ihk (bA x 0:Int) (Ve e0') m1;rw[hz] at b4;have hvl:x.values.length=1:=by rw[←b4];rfl
  have hk1:x.kids.drop 1=[(bA x 1:Int)]:=by
   apply X3;intro j;rw[V9];rcases j with _|j
   ·rw[W0,e1'];rfl
   ·rw[Vo om,Vo (by simp)]
  rw[hk1];have hz1:=ihk (bA x 1:Int) (Ve e1') (m2 _ (by rw[hk1];simp));unfold jW;simp only[V1,Xi,bL,hz1,WG,E1];simp
end
end Go.Ax
namespace Go.Ax
open Go
theorem FZ{rd:Nat->Nat->Az}{a0:Nat}{g:Int->a6}:∀(ks:List Int) (s:Pt),s.stop = -1->(∀k∈ks,∀q,(rd k.toNat q).val=g k/\(rd k.toNat q).used=0/\(rd k.toNat q).stop = -1) ->
  (bH rd a0 ks s).used=s.used/\(bH rd a0 ks s).vals=s.vals++ks.map g/\(bH rd a0 ks s).stop = -1
 | [],s,hs,_=>⟨rfl,by simp[bH],hs⟩
 | k::ks,s,hs,h=>by
  obtain⟨h1,h2,h3⟩:=h k (Vu ..) (a0+s.used);simp only[bH];rw[Vb h3];obtain⟨g1,g2,g3⟩:=FZ (rd:=rd) (a0:=a0) (g:=g) ks ⟨s.used+(rd k.toNat (a0+s.used)).used,s.vals++[(rd k.toNat (a0+s.used)).val],s.spans++(a0,a0+s.used,a0+s.used+(rd k.toNat (a0+s.used)).used)::(rd k.toNat (a0+s.used)).spans,-1⟩ rfl fun q hq=>h q (Vn _ hq)
  refine⟨by rw[g1];simp only;omega, ?_,g3⟩;rw[g2];simp only[h1];simp
section
variable {A:List Nd}
theorem DL(h:VT A)(p:List Int):∀f i a0,i<f->i<A.length->dR (aX A) i=0->(a7 A p f i a0).val=D4 (cS A) i/\(a7 A p f i a0).used=0/\(a7 A p f i a0).stop = -1/\(MS (cY A) i=true->(a7 A p f i a0).spans=[])
 | 0,i,a0,hf,hi,h0=>om
 | f+1,i,a0,hf,hi,h0=>by
  have hx:=bY hi;have hkm:=fun(k:Int) (hk:k∈(aE A i).kids)=>dW h hx hk
  obtain⟨l1,l2,l3,l4⟩:=h.len0 hx h0;have hbi:=fun h4=>h.bind hx h4
  have hkd:=fun(j:Nat) (hj:j<(aE A i).kids.length)=>h.kid hx hj
  have hkind:=(h.node hx).node.kind;have ih:=fun(k:Nat) (a:Nat) (hk:k<i)=>DL h p f k a om om
  rw[h.fix hx,h.pln hx];rw[h.len hx] at h0;simp only[a7];generalize aE A i=x at *;have hfx:yF (aX A) (cS A) x=if x.kind=0 then x.value else if x.kind=3 then dP x.name (x.kids.map fun k=>(cS A).getD k.toNat vZ) else if x.kind=4 then(cS A).getD (bA x 1) vZ else vZ:=by
   unfold yF;rw[VY om]
  rw[hfx];by_cases k0:x.kind=0
  ·rw[Vb k0,Vb k0];exact⟨rfl,rfl,rfl,fun _=>rfl⟩
  rw[VY k0,VY k0];by_cases k3:x.kind=3
  ·rw[Vb k3,Vb k3];obtain⟨g1,g2,g3⟩:=FZ (rd:=fun k q=>a7 A p f k q) (a0:=a0) (g:=fun k=>(cS A).getD k.toNat vZ) x.kids ⟨0,[],[],-1⟩ rfl fun k hk q=>by
    have:=hkm k hk;obtain⟨e1,e2,e3,-⟩:=ih k.toNat q this.2 (by rw[show ((k.toNat:Nat):Int)=k by omega];exact l3 k3 k hk);exact⟨e1,e2,e3⟩
   simp only[Dy];rw[Vb g3,g2,g1];refine⟨rfl,rfl,g3,fun hp=>?_⟩;unfold AA at hp;simp only[VZ,WN,Vt] at hp;have hk:x.kids=[]:=by
    rcases hp.1.2 with e|e
    ·exact absurd k3 e
    ·exact Vj e
   rw[hk];rfl
  rw[VY k3,VY k3];have k4:x.kind=4:=om;rw[Vb k4,Vb k4];obtain⟨b1,b2,b3,b4⟩:=hbi k4;obtain⟨m1,m2⟩:=l4 k4;have e0:bA x 0<i/\x.kids[0]? = some (bA x 0:Int):=hkd 0 om;have e1:bA x 1<i/\x.kids[1]? = some (bA x 1:Int):=hkd 1 om;obtain⟨c1,c2,c3,c4⟩:=ih _ a0 e0.1 m1;have hl:=OM h _ (show bA x 0<A.length by omega) m1;rw[hl] at b4;rw[Vb c3,←b4,c1];have hfd:(cD [D4 (cS A) (bA x 0)] (D4 (cS A) (bA x 0))).1=0:=by simp[cD,Af]
  simp only[hfd,c2];have hz1:dR (aX A) (bA x 1)=0:=m2 _ (by
   refine Ve (i:=0) ?_;rw[V9];exact e1.2)
  obtain⟨d1,d2,d3,d4⟩:=ih (bA x 1) (a0+0) e1.1 hz1;refine⟨d1, ?_,d3,fun hp=>?_⟩
  ·show 0+(a7 A p f (bA x 1) (a0+0)).used=0
   rw[d2]
  ·unfold AA at hp;simp only[VZ,WW] at hp;have q0:=hp.2 _ (Ve e0.2);have q1:=hp.2 _ (Ve e1.2);rw[Va] at q0 q1
   show (a7 A p f (bA x 0) a0).spans++(a7 A p f (bA x 1) (a0+0)).spans=[]
   rw[c4 q0,d4 q1];rfl
theorem FL{rd:Nat->Nat->Az}{a0:Nat}{b:List Int}:∀(ks:List Int) (s:Pt),(∀k∈ks,∀q,((rd k.toNat q).used:Int)<=dR b k)->(∀k,0<=dR b k)->((bH rd a0 ks s).used:Int)<=s.used+fB b ks
 | [],s,_,_=>by simp[bH,fB]
 | k::ks,s,h,hb=>by
  have h1:=h k (Vu ..) (a0+s.used);have hs:fB b (k::ks)=dR b k+fB b ks:=by
   unfold fB;rw[V1,oW];unfold fB;omega
  have h0:∀l:List Int,0<=fB b l:=by
   intro l
   induction l with
   | nil=>simp[fB]
   | cons q r ih=>
    unfold fB at ih ⊢;rw[V1,oW];unfold fB;have:=hb q;omega
  have h2:=h0 ks;rw[hs];simp only[bH];split
  ·have:=FL (rd:=rd) (a0:=a0) (b:=b) ks ⟨s.used+(rd k.toNat (a0+s.used)).used,s.vals++[(rd k.toNat (a0+s.used)).val],s.spans++(a0,a0+s.used,a0+s.used+(rd k.toNat (a0+s.used)).used)::(rd k.toNat (a0+s.used)).spans,-1⟩ (fun q hq=>h q (Vn _ hq)) hb;simp only at this;omega
  ·simp only;omega
theorem Ib(h:VT A)(p:List Int):∀f i a0,i<f->i<A.length->((a7 A p f i a0).used:Int)<=dR (aX A) i
 | 0,i,a0,hf,hi=>om
 | f+1,i,a0,hf,hi=>by
  have hx:=bY hi;have hkm:=fun(k:Int) (hk:k∈(aE A i).kids)=>dW h hx hk
  have hbi:=fun h4=>h.bind hx h4
  have hkI:=fun(c:Int) (h0:0<=c) (h1:c<(aE A i).kids.length)=>h.kidI hx h0 h1
  have hkind:=(h.node hx).node.kind;have ih:=fun(k:Nat) (a:Nat) (hk:k<i)=>Ib h p f k a om om
  have ihm:=fun(k:Nat) (a:Nat) (hk:k<i)=>mJ h p f k a om om
  have hsrt:=(h.node hx).srt;have hb:=fun k=>(h.lens0 k).1
  rw[h.len hx];simp only[a7];generalize aE A i=x at *;have hm0:=(gP (b:=aX A) (M:=1024) om (i6 A h.v0).1 (dU x)).1;unfold d9;by_cases k0:x.kind=0
  ·rw[Vb k0,Vb k0];exact Int.le_refl _
  rw[VY k0,VY k0];by_cases k3:x.kind=3
  ·rw[Vb k3,VY (show ¬x.kind=1 by omega),Vb k3];have:=FL (rd:=fun k q=>a7 A p f k q) (a0:=a0) (b:=aX A) x.kids ⟨0,[],[],-1⟩ (fun k hk q=>by
    have:=hkm k hk;have e:=ih k.toNat q this.2
    rwa [show ((k.toNat:Nat):Int)=k by omega] at e) hb
   simp only at this
   show ((bH _ a0 x.kids ⟨0,[],[],-1⟩).used:Int)<=_
   omega
  rw[VY k3];by_cases k4:x.kind=4
  ·obtain⟨b1,b2,b3,b4⟩:=hbi k4;rw[Vb k4,VY (show ¬x.kind=1 by omega),VY k3,VY (show ¬x.kind=2 by omega)];obtain⟨c1,c2,c3⟩:=hkI 0 om om;have hk:(x.kids.getD 0 0)=(bA x 0:Int):=by
    have h2:x.kids[0]? = some (bA x 0:Int):=c3;rw[VW,h2];rfl
   rw[hk];have e1:=ih _ a0 c1;split
   ·rename_i hst;obtain⟨-,m1⟩:=ihm _ a0 c1 hst;have m1:=m1 b3;rw[b4] at m1;obtain⟨q,fq,q1,q2⟩:=lD hsrt m1;rw[fq];simp only;obtain⟨d1,d2,d3⟩:=hkI ((q+1:Nat):Int) om om;have e2:=ih _ (a0+(a7 A p f (bA x 0) a0).used) d1;have ha:(bA x ((q+1:Nat):Int):Int)∈dU x:=by
     unfold dU;rw[VY om];rw[Va] at d3;refine Ve (i:=q) ?_;rw[V9,Xw];exact d3
    have e3:=(pN (ss:=aX A) (dU x) 0 _ ha).1;have e3:dR (aX A) (bA x ((q+1:Nat):Int))<=cQ (aX A) (dU x):=e3;omega
   ·omega
  rw[VY k4];have hl1:∀u:Int,u<=1+cQ (aX A) (dU x)->(x.kind=1->u<=1)->u<=(if x.kind=1 then 1 else if x.kind=2 then 1+cQ (aX A) (dU x) else dR (aX A) (x.kids.getD 0 0)+cQ (aX A) (dU x)):=fun u h1 h2=>by
   by_cases k1:x.kind=1
   ·rw[Vb k1];exact h2 k1
   ·rw[VY k1,Vb om];exact h1
  split
  ·exact hl1 ((0:Nat):Int) om (fun _=>om)
  rename_i hp;split
  ·exact hl1 ((0:Nat):Int) om (fun _=>om)
  rename_i hc;rw[not_or] at hc;by_cases k1:x.kind=1
  ·rw[Vb k1];exact hl1 ((1:Nat):Int) om (fun _=>om)
  ·rw[VY k1];have ho:fK x=x.kids.length:=by unfold fK;rw[VY k1]
   obtain⟨d1,d2,d3⟩:=hkI (p.getD a0 0) om om;have e2:=ih _ (a0+1) d1;have ha:(bA x (p.getD a0 0):Int)∈dU x:=by unfold dU;rw[Vb om];exact d2
   have e3:=(pN (ss:=aX A) (dU x) 0 _ ha).1;have e3:dR (aX A) (bA x (p.getD a0 0))<=cQ (aX A) (dU x):=e3;exact hl1 (((a7 A p f (bA x (p.getD a0 0)) (a0+1)).used+1:Nat):Int) om (fun e=>absurd e k1)
end
end Go.Ax
namespace Go.Ax
open Go
def cR(raw:List Int)(x:Nd)(q:Nat):Int:=if q<raw.length then max 0 (min (raw.getD q 0) (fK x-1)) else 0
structure Ft where
 cs:List Int
 val:a6
def dO(ft:Nat->Nat->Ft)(q:Nat):List Int->List Int × List a6->List Int × List a6
 | [],s=>s
 | k::ks,s=>dO ft q ks (s.1++(ft k.toNat (q+s.1.length)).cs,s.2++[(ft k.toNat (q+s.1.length)).val])
def dJ(A:List Nd)(raw:List Int):Nat->Nat->Nat->Ft
 | 0,_,_=>⟨[],vZ⟩
 | f+1,i,q=>
  if (aE A i).kind=0 then⟨[],(aE A i).value⟩
  else if (aE A i).kind=3 then⟨(dO (fun k q=>dJ A raw f k q) q (aE A i).kids ([],[])).1,dP (aE A i).name (dO (fun k q=>dJ A raw f k q) q (aE A i).kids ([],[])).2⟩
  else if (aE A i).kind=4 then
   ⟨(dJ A raw f (bA (aE A i) 0) q).cs++(dJ A raw f (bA (aE A i) ((cD (aE A i).values (dJ A raw f (bA (aE A i) 0) q).val).1+1:Nat)) (q+(dJ A raw f (bA (aE A i) 0) q).cs.length)).cs,
    (dJ A raw f (bA (aE A i) ((cD (aE A i).values (dJ A raw f (bA (aE A i) 0) q).val).1+1:Nat)) (q+(dJ A raw f (bA (aE A i) 0) q).cs.length)).val⟩
  else if (aE A i).kind=1 then⟨[cR raw (aE A i) q],.mk 0 ((aE A i).lo+cR raw (aE A i) q) [] []⟩
  else⟨cR raw (aE A i) q::(dJ A raw f (bA (aE A i) (cR raw (aE A i) q)) (q+1)).cs,(dJ A raw f (bA (aE A i) (cR raw (aE A i) q)) (q+1)).val⟩
theorem wC{raw:List Int}{x:Nd}{q:Nat}(h:1<=fK x):0<=cR raw x q/\cR raw x q<fK x:=by
 unfold cR;split<;>omega
theorem Ac{p r:List Int}{q:Nat}{c:Int}(h:p.drop q=c::r):q<p.length/\p.getD q 0=c/\p.drop (q+1)=r:=by
 have h1:q<p.length:=by
  have:=congrArg List.length h;simp at this;omega
 rw[List.drop_eq_getElem_cons h1] at h;obtain⟨e1,e2⟩:=List.cons.inj h;refine⟨h1, ?_,e2⟩;rw[VW,VV h1,e1];rfl
theorem AJ{p a r:List Int}{q:Nat}(h:p.drop q=a++r):p.drop (q+a.length)=r:=by
 have:=congrArg (List.drop a.length) h;rw[List.drop_drop,List.drop_left] at this;exact this
theorem qX{ft:Nat->Nat->Ft}{q:Nat}:∀(ks:List Int) (s:List Int × List a6),∃m,(dO ft q ks s).1=s.1++m
 | [],s=>⟨[],by simp[dO]⟩
 | k::ks,s=>by
  obtain⟨m,hm⟩:=qX (ft:=ft) (q:=q) ks (s.1++(ft k.toNat (q+s.1.length)).cs,s.2++[(ft k.toNat (q+s.1.length)).val]);exact⟨(ft k.toNat (q+s.1.length)).cs++m,by rw[dO,hm,List.append_assoc]⟩
structure As(r:Az)(f:Ft):Prop where
 val:r.val=f.val
 used:r.used=f.cs.length
 stop:r.stop = -1
theorem Na{ft:Nat->Nat->Ft}{rd:Nat->Nat->Az}{p:List Int}{q:Nat}{post:List Int}:∀(ks:List Int) (s:List Int × List a6) (pt:Pt) (m:List Int),(∀k∈ks,∀q post,p.drop q=(ft k.toNat q).cs++post->As (rd k.toNat q) (ft k.toNat q)) ->
  pt.used=s.1.length->pt.vals=s.2->pt.stop = -1->(dO ft q ks s).1=s.1++m->p.drop (q+s.1.length)=m++post ->
  (bH rd q ks pt).used=(dO ft q ks s).1.length/\(bH rd q ks pt).vals=(dO ft q ks s).2/\(bH rd q ks pt).stop = -1
 | [],s,pt,m,_,h1,h2,h3,_,_=>⟨h1,h2,h3⟩
 | k::ks,s,pt,m,hk,h1,h2,h3,hm,hd=>by
  rw[dO] at hm;obtain⟨m',hm'⟩:=qX (ft:=ft) (q:=q) ks (s.1++(ft k.toNat (q+s.1.length)).cs,s.2++[(ft k.toNat (q+s.1.length)).val]);have e:m=(ft k.toNat (q+s.1.length)).cs++m':=by
   rw[hm',List.append_assoc] at hm;exact(List.append_cancel_left hm).symm
  rw[e,List.append_assoc] at hd;obtain⟨a1,a2,a3⟩:=hk k (Vu ..) _ _ hd;simp only[bH,dO];rw[h1,Vb a3];refine Na (post:=post) ks _ _ m' (fun q hq=>hk q (Vn _ hq)) (by simp only;rw[a2,Vf]) (by simp only;rw[h2,a1]) rfl hm' ?_;simp only;rw[Vf,←Nat.add_assoc];exact AJ hd
section
variable {A:List Nd}
theorem VT.opt(h:VT A){i:Nat}{x:Nd}(hx:A[i]? = some x)(hk:x.kind=1∨x.kind=2):1<=fK x:=by
 have hg:=h.node hx;unfold fK;split
 ·have:=(dD hg.node.num).1;omega
 ·have:=(hg.opt.ch om).1;omega
theorem Kl(h:VT A)(raw p:List Int):∀f i q post,i<f->i<A.length->p.drop q=(dJ A raw f i q).cs++post->As (a7 A p f i q) (dJ A raw f i q)
 | 0,i,q,post,hf,hi,hd=>om
 | f+1,i,q,post,hf,hi,hd=>by
  have hx:=bY hi;have hkm:=fun(k:Int) (hk:k∈(aE A i).kids)=>dW h hx hk
  have hbi:=fun h4=>h.bind hx h4
  have hkI:=fun(c:Int) (h0:0<=c) (h1:c<(aE A i).kids.length)=>h.kidI hx h0 h1
  have hopt:=fun hk=>h.opt hx hk
  have hkind:=(h.node hx).node.kind;have hsrt:=(h.node hx).srt;have ih:=fun(k:Nat) (q:Nat) (post:List Int) (hk:k<i)=>Kl h raw p f k q post om om
  have ihm:=fun(k:Nat) (a:Nat) (hk:k<i)=>mJ h p f k a om om
  simp only[a7,dJ] at hd ⊢;generalize aE A i=x at *;by_cases k0:x.kind=0
  ·rw[Vb k0,Vb k0];exact⟨rfl,rfl,rfl⟩
  rw[VY k0] at hd;rw[VY k0,VY k0];by_cases k3:x.kind=3
  ·rw[Vb k3] at hd;rw[Vb k3,Vb k3];obtain⟨m,hm⟩:=qX (ft:=fun k q=>dJ A raw f k q) (q:=q) x.kids ([],[]);simp only at hd;obtain⟨g1,g2,g3⟩:=Na (ft:=fun k q=>dJ A raw f k q) (rd:=fun k q=>a7 A p f k q) (p:=p) (q:=q) (post:=post) x.kids ([],[]) ⟨0,[],[],-1⟩ m (fun k hk q' post' hd'=>ih k.toNat q' post' (hkm k hk).2 hd') rfl rfl rfl hm (by
    rw[hm] at hd;simpa using hd)
   simp only[Dy];exact⟨by simp only;rw[Vb g3,g2],g1,g3⟩
  rw[VY k3] at hd;rw[VY k3,VY k3];by_cases k4:x.kind=4
  ·rw[Vb k4] at hd;rw[Vb k4,Vb k4];obtain⟨b1,b2,b3,b4⟩:=hbi k4;obtain⟨c1,c2,c3⟩:=hkI 0 om om;simp only[List.append_assoc] at hd;obtain⟨a1,a2,a3⟩:=ih _ q _ c1 hd;obtain⟨-,m1⟩:=ihm _ q c1 a3;have m1:=m1 b3;rw[b4] at m1;obtain⟨w,fq,q1,q2⟩:=lD hsrt m1;have hd2:=AJ hd;rw[Vb a3];rw[←a1,fq] at hd2 ⊢;rw[a2];simp only at hd2 ⊢;obtain⟨d1,d2,d3⟩:=hkI ((w+1:Nat):Int) om om;obtain⟨e1,e2,e3⟩:=ih _ _ _ d1 hd2;exact⟨e1,by simp only;rw[e2,Vf],e3⟩
  rw[VY k4] at hd;rw[VY k4,VY k4];have hb:=wC (raw:=raw) (q:=q) (hopt om);generalize cR raw x q=c at *;by_cases k1:x.kind=1
  ·rw[Vb k1] at hd;obtain⟨p1,p2,p3⟩:=Ac hd;rw[VY (show ¬p.length<=q by omega),p2,VY (show ¬(c<0∨fK x<=c) by omega),Vb k1,Vb k1];exact⟨rfl,rfl,rfl⟩
  ·rw[VY k1] at hd;obtain⟨p1,p2,p3⟩:=Ac hd;rw[VY (show ¬p.length<=q by omega),p2,VY (show ¬(c<0∨fK x<=c) by omega),VY k1,VY k1];have ho:fK x=x.kids.length:=by unfold fK;rw[VY k1]
   obtain⟨d1,d2,d3⟩:=hkI c om om;obtain⟨e1,e2,e3⟩:=ih _ _ _ d1 p3;exact⟨e1,by simp only;rw[e2,WB],e3⟩
theorem JR(h:VT A)(raw:List Int){f i q:Nat}(hf:i<f)(hi:i<A.length):As (a7 A (List.replicate q 0++(dJ A raw f i q).cs) f i q) (dJ A raw f i q):=
 Kl h raw _ f i q [] hf hi (by rw[Wg,XM (by simp)];simp)
theorem Ge(h:VT A)(raw:List Int){f i q:Nat}(hf:i<f)(hi:i<A.length):((dJ A raw f i q).cs.length:Int)<=dR (aX A) i:=by
 rw[←(JR h raw (q:=q) hf hi).used];exact Ib h _ f i q hf hi
theorem Rg(h:VT A)(raw:List Int){f i q:Nat}(hf:i<f)(hi:i<A.length):gH (dJ A raw f i q).val/\((dF (aT A) i).many=false->(dJ A raw f i q).val∈(dF (aT A) i).vals):=by
 have ha:=JR h raw (q:=q) hf hi;rw[←ha.val];exact mJ h _ f i q hf hi ha.stop
theorem PH(h:VT A)(raw:List Int){f i q:Nat}(hf:i<f)(hi:i<A.length)(h0:dR (aX A) i=0):(dJ A raw f i q).cs=[]/\(dJ A raw f i q).val=D4 (cS A) i:=by
 have ha:=JR h raw (q:=q) hf hi;have hl:=Ge h raw (q:=q) hf hi;refine⟨Vj om, ?_⟩;rw[←ha.val];exact(DL h _ f i q hf hi h0).1
theorem Nw{ft:Nat->Nat->Ft}{rd:Nat->Nat->Az}{raw p:List Int}{q:Nat}:∀(ks:List Int) (s:List Int × List a6) (pt:Pt) (r:List Int) (m:Nat),(∀k∈ks,∀q post,p.drop q=(ft k.toNat q).cs++post->As (rd k.toNat q) (ft k.toNat q)) ->
  (∀k∈ks,∀q m,m<(ft k.toNat q).cs.length->p.drop q=(ft k.toNat q).cs.take m->∃n,n<A.length/\(rd k.toNat q).stop=(n:Int)/\(ft k.toNat q).cs[m]? = some (cR raw (aE A n) (q+m))) ->
  pt.used=s.1.length->(dO ft q ks s).1=s.1++r->m<r.length->p.drop (q+s.1.length)=r.take m->∃n,n<A.length/\(bH rd q ks pt).stop=(n:Int)/\r[m]? = some (cR raw (aE A n) (q+s.1.length+m))
 | [],s,pt,r,m,_,_,_,hr,hm,_=>by
  rw[dO] at hr;have:r=[]:=by
   have:=congrArg List.length hr;rw[Vf] at this;exact Vj om
  subst this;simp at hm
 | k::ks,s,pt,r,m,hka,hkb,hu,hr,hm,hd=>by
  rw[dO] at hr;obtain⟨r',hr'⟩:=qX (ft:=ft) (q:=q) ks (s.1++(ft k.toNat (q+s.1.length)).cs,s.2++[(ft k.toNat (q+s.1.length)).val]);have e:r=(ft k.toNat (q+s.1.length)).cs++r':=by
   rw[hr',List.append_assoc] at hr;exact(List.append_cancel_left hr).symm
  have hka0:=hka k (Vu ..) (q+s.1.length);have hkb0:=hkb k (Vu ..) (q+s.1.length);have hrec:=fun(pt':Pt) (m':Nat)=>Nw (ft:=ft) (rd:=rd) (raw:=raw) (p:=p) (q:=q) ks (s.1++(ft k.toNat (q+s.1.length)).cs,s.2++[(ft k.toNat (q+s.1.length)).val]) pt' r' m' (fun q hq=>hka q (Vn _ hq)) (fun q hq=>hkb q (Vn _ hq))
  subst e;simp only[bH];rw[hu];generalize ft k.toNat (q+s.1.length)=F at *;generalize rd k.toNat (q+s.1.length)=R at *;by_cases hc:m<F.cs.length
  ·rw[Wm om] at hd;obtain⟨n,n1,n2,n3⟩:=hkb0 m hc hd;rw[VY (by rw[n2];omega)];exact⟨n,n1,n2,by rw[Vp hc];exact n3⟩
  ·obtain⟨m',rfl⟩:∃m',m=F.cs.length+m':=⟨m-F.cs.length,om⟩
   rw[Xx] at hd;obtain⟨a1,a2,a3⟩:=hka0 _ hd;rw[Vb a3];have hd2:=AJ hd;rw[Vf] at hm;obtain⟨n,n1,n2,n3⟩:=hrec ⟨s.1.length+R.used,pt.vals++[R.val],pt.spans++(q,q+s.1.length,q+s.1.length+R.used)::R.spans,-1⟩ m' (by simp only;rw[a2,Vf]) hr' om (by
    simp only;rw[Vf,←Nat.add_assoc];exact hd2)
   refine⟨n,n1,n2, ?_⟩;rw[Vx om,Xa,n3];simp only[Vf];congr 2;omega
theorem Q8(h:VT A)(raw p:List Int):∀f i q m,i<f->i<A.length->m<(dJ A raw f i q).cs.length->p.drop q=(dJ A raw f i q).cs.take m->∃n,n<A.length/\(a7 A p f i q).stop=(n:Int)/\(dJ A raw f i q).cs[m]? = some (cR raw (aE A n) (q+m))
 | 0,i,q,m,hf,hi,hm,hd=>om
 | f+1,i,q,m,hf,hi,hm,hd=>by
  have hx:=bY hi;have hkm:=fun(k:Int) (hk:k∈(aE A i).kids)=>dW h hx hk
  have hbi:=fun h4=>h.bind hx h4
  have hkI:=fun(c:Int) (h0:0<=c) (h1:c<(aE A i).kids.length)=>h.kidI hx h0 h1
  have hopt:=fun hk=>h.opt hx hk
  have hkind:=(h.node hx).node.kind;have hsrt:=(h.node hx).srt;have ih:=fun(k:Nat) (q:Nat) (post:List Int) (hk:k<i)=>Kl h raw p f k q post om om
  have ihb:=fun(k:Nat) (q:Nat) (m:Nat) (hk:k<i)=>Q8 h raw p f k q m om om
  have ihm:=fun(k:Nat) (a:Nat) (hk:k<i)=>mJ h p f k a om om
  have hnode:∀y,aE A i=y->aE A i=y:=fun y e=>e
  simp only[a7,dJ] at hm hd ⊢;generalize hxe:aE A i=x at *;by_cases k0:x.kind=0
  ·rw[Vb k0] at hm;simp at hm
  rw[VY k0] at hm hd ⊢;rw[VY k0];by_cases k3:x.kind=3
  ·rw[Vb k3] at hm hd ⊢;rw[Vb k3];obtain⟨r,hr⟩:=qX (ft:=fun k q=>dJ A raw f k q) (q:=q) x.kids ([],[]);rw[WG] at hr;simp only at hm hd ⊢;obtain⟨n,n1,n2,n3⟩:=Nw (A:=A) (ft:=fun k q=>dJ A raw f k q) (rd:=fun k q=>a7 A p f k q) (raw:=raw) (p:=p) (q:=q) x.kids ([],[]) ⟨0,[],[],-1⟩ r m (fun k hk q' post' hd'=>ih k.toNat q' post' (hkm k hk).2 hd') (fun k hk q' m' hm' hd'=>ihb k.toNat q' m' (hkm k hk).2 hm' hd') rfl (by rw[hr];rfl) (by rw[←hr];exact hm) (by rw[←hr];exact hd);exact⟨n,n1,n2,by rw[hr];exact n3⟩
  rw[VY k3] at hm hd ⊢;rw[VY k3];by_cases k4:x.kind=4
  ·rw[Vb k4] at hm hd ⊢;rw[Vb k4];obtain⟨b1,b2,b3,b4⟩:=hbi k4;obtain⟨c1,c2,c3⟩:=hkI 0 om om;simp only at hm hd ⊢;by_cases hc:m<(dJ A raw f (bA x 0) q).cs.length
   ·rw[Wm om] at hd;obtain⟨n,n1,n2,n3⟩:=ihb _ q m c1 hc hd;rw[VY (by rw[n2];omega)];exact⟨n,n1,n2,by rw[Vp hc];exact n3⟩
   ·obtain⟨m',rfl⟩:∃m',m=(dJ A raw f (bA x 0) q).cs.length+m':=⟨m-(dJ A raw f (bA x 0) q).cs.length,om⟩
    rw[Xx] at hd;rw[Vf] at hm;obtain⟨a1,a2,a3⟩:=ih _ q _ c1 hd;obtain⟨-,m1⟩:=ihm _ q c1 a3;have m1:=m1 b3;rw[b4] at m1;obtain⟨w,fq,q1,q2⟩:=lD hsrt m1;have hd2:=AJ hd;rw[Vb a3];rw[Vx om,Xa];rw[a2];rw[←a1,fq] at hd2 hm ⊢;simp only at hd2 hm ⊢;obtain⟨d1,d2,d3⟩:=hkI ((w+1:Nat):Int) om om;obtain⟨n,n1,n2,n3⟩:=ihb _ _ m' d1 om hd2;exact⟨n,n1,n2,by rw[n3,Nat.add_assoc]⟩
  rw[VY k4] at hm hd ⊢;rw[VY k4];have hb:=wC (raw:=raw) (q:=q) (hopt om);by_cases k1:x.kind=1
  ·rw[Vb k1] at hm hd ⊢;have hm0:m=0:=by simp at hm;omega
   subst hm0;have hl:p.length<=q:=by
    have:=congrArg List.length hd;simp at this;omega
   rw[Vb hl];exact⟨i,hi,rfl,by rw[hxe,Vb k1];rfl⟩
  ·rw[VY k1] at hm hd ⊢;rcases V6 m with hm0|hm0
   ·subst hm0;have hl:p.length<=q:=by
     have:=congrArg List.length hd;simp at this;omega
    rw[Vb hl];exact⟨i,hi,rfl,by rw[hxe,VY k1];rfl⟩
   ·obtain⟨m',rfl⟩:∃m',m=m'+1:=⟨m-1,om⟩
    rw[List.take_succ_cons] at hd;simp only[WB] at hm;obtain⟨p1,p2,p3⟩:=Ac hd;generalize cR raw x q=c at *;rw[VY (show ¬p.length<=q by omega),p2,VY (show ¬(c<0∨fK x<=c) by omega),VY k1];have ho:fK x=x.kids.length:=by unfold fK;rw[VY k1]
    obtain⟨d1,d2,d3⟩:=hkI c om om;obtain⟨n,n1,n2,n3⟩:=ihb _ _ m' d1 om p3;exact⟨n,n1,n2,by
     simp only[List.getElem?_cons_succ];rw[n3];congr 2;omega⟩
end
end Go.Ax
namespace Go.Ax
open Go
def gN(x:Nd):Nat:=if x.kind=3 then max 3 x.kids.length else 3
def HP(A:List Nd):Nat->Nat
 | 0=>1
 | n+1=>HP A n*gN (aE A (n+1))
theorem Qz(x:Nd):3<=gN x:=by unfold gN;split<;>omega
theorem GG(A:List Nd):∀n,1<=HP A n
 | 0=>Vh _
 | n+1=>by
  have h1:=GG A n;have h2:=Qz (aE A (n+1));rw[HP];exact WM om (Wk h1 h2)
theorem KM(A:List Nd)(n:Nat):3*HP A n<=HP A (n+1):=by
 rw[HP,XU];exact Nat.mul_le_mul_left _ (Qz _)
theorem wE(A:List Nd){k:Nat}:∀{n:Nat},k<=n->HP A k<=HP A n
 | 0,h=>by rw[show k=0 by omega];exact Vh _
 | n+1,h=>by
  rcases Vm k (n+1) with h'|h'
  ·have:=wE A (k:=k) (n:=n) om;have:=KM A n;omega
  ·rw[show k=n+1 by omega];exact Vh _
theorem Eg{rd:Nat->Nat->Az}{a0 M:Nat}(hM:3<=M):∀(ks:List Int) (s:Pt),(∀k∈ks,∀q,2*(rd k.toNat q).spans.length+3<=M)->2*(bH rd a0 ks s).spans.length<=2*s.spans.length+ks.length*(M-1)
 | [],s,_=>by simp[bH]
 | k::ks,s,h=>by
  have h1:=h k (Vu ..) (a0+s.used);have e:(k::ks).length*(M-1)=ks.length*(M-1)+(M-1):=by rw[WB,Nat.succ_mul]
  rw[e];simp only[bH];generalize hR:rd k.toNat (a0+s.used)=R at *;split
  ·have:=Eg (rd:=rd) (a0:=a0) hM ks ⟨s.used+R.used,s.vals++[R.val],s.spans++(a0,a0+s.used,a0+s.used+R.used)::R.spans,-1⟩ fun q hq=>h q (Vn _ hq)
   simp only[Vf,WB] at this;omega
  ·simp only[Vf,WB];have:=Wb (ks.length*(M-1));omega
theorem FD{A:List Nd}(h:VT A)(p:List Int):∀f i a0,i<f->i<A.length->2*(a7 A p f i a0).spans.length+3<=3*HP A i
 | 0,i,a0,hf,hi=>om
 | f+1,i,a0,hf,hi=>by
  have hx:=bY hi;have hkm:=fun(k:Int) (hk:k∈(aE A i).kids)=>dW h hx hk
  have hbi:=fun h4=>h.bind hx h4
  have hkI:=fun(c:Int) (h0:0<=c) (h1:c<(aE A i).kids.length)=>h.kidI hx h0 h1
  have hkind:=(h.node hx).node.kind;have hsrt:=(h.node hx).srt;have ih:=fun(k:Nat) (a:Nat) (hk:k<i)=>FD h p f k a om om
  have ihm:=fun(k:Nat) (a:Nat) (hk:k<i)=>mJ h p f k a om om
  have hp1:=GG A i;have hgi:∀j,i=j+1->HP A i=HP A j*gN (aE A i):=fun j e=>by rw[e,HP]
  have h0:∀r:Az,r.spans=[]->2*r.spans.length+3<=3*HP A i:=fun r e=>by rw[e];simp;omega
  simp only[a7];generalize aE A i=x at *;by_cases k0:x.kind=0
  ·rw[Vb k0];exact h0 _ rfl
  rw[VY k0];by_cases k3:x.kind=3
  ·rw[Vb k3]
   show 2*(bH (fun k q=>a7 A p f k q) a0 x.kids ⟨0,[],[],-1⟩).spans.length+3<=3*HP A i
   rcases V6 i with e|e
   ·have hk:x.kids=[]:=by
     cases hkk:x.kids with
     | nil=>rfl
     | cons k ks=>have:=hkm k (by rw[hkk];simp);omega
    rw[hk];simp only[bH,WZ];omega
   ·obtain⟨j,rfl⟩:∃j,i=j+1:=⟨i-1,om⟩
    have hj:=GG A j;have hc:=Eg (rd:=fun k q=>a7 A p f k q) (a0:=a0) (M:=3*HP A j) om x.kids ⟨0,[],[],-1⟩ fun k hk q=>by
     have:=hkm k hk;have e1:=ih k.toNat q this.2;have e2:=wE A (k:=k.toNat) (n:=j) om;omega
    simp only[WZ] at hc;rw[hgi j rfl];have hg:gN x=max 3 x.kids.length:=by unfold gN;rw[Vb k3]
    rw[hg];generalize x.kids.length=n at hc ⊢;generalize HP A j=H at hc hj ⊢;rcases Vm n 3 with hn|hn
    ·rw[Nat.max_eq_left om];have:n*(3*H-1)<=2*(3*H-1):=Vz _ om;omega
    ·rw[Nat.max_eq_right hn];have e1:n*(3*H-1)+n=n*(3*H):=by
      rw[←Nat.mul_succ];congr 1;omega
     have e2:3*(H*n)=n*(3*H):=by rw[XU n,Nat.mul_assoc]
     omega
  rw[VY k3];by_cases k4:x.kind=4
  ·rw[Vb k4];obtain⟨b1,b2,b3,b4⟩:=hbi k4;obtain⟨c1,c2,c3⟩:=hkI 0 om om;have e1:=ih _ a0 c1;obtain⟨j,rfl⟩:∃j,i=j+1:=⟨i-1,om⟩
   have hs:=KM A j;have hj:=GG A j;have m1':=wE A (k:=bA x 0) (n:=j) om;split
   ·rename_i hst;obtain⟨-,m1⟩:=ihm _ a0 c1 hst;have m1:=m1 b3;rw[b4] at m1;obtain⟨q,fq,q1,q2⟩:=lD hsrt m1;rw[fq];simp only[Vf];obtain⟨d1,d2,d3⟩:=hkI ((q+1:Nat):Int) om om;have e2:=ih _ (a0+(a7 A p f (bA x 0) a0).used) d1;have m2':=wE A (k:=bA x ((q+1:Nat):Int)) (n:=j) om;omega
   ·omega
  rw[VY k4];split
  ·exact h0 _ rfl
  split
  ·exact h0 _ rfl
  rename_i hc;rw[not_or] at hc;split
  ·exact h0 _ rfl
  ·rename_i k1;have ho:fK x=x.kids.length:=by unfold fK;rw[VY k1]
   obtain⟨d1,d2,d3⟩:=hkI (p.getD a0 0) om om;have e1:=ih _ (a0+1) d1;have m1':=wE A (k:=bA x (p.getD a0 0)) (n:=i) om;simp only;omega
end Go.Ax
namespace Go.Ax
open Go
def iV(A:List Nd)(r:List Int):List Int:=(dJ A r A.length (A.length-1) 0).cs
theorem OK{A:List Nd}(h:VT A)(r:List Int):(iV A r).length<=1024:=by
 have h1:=Ge h r (f:=A.length) (i:=A.length-1) (q:=0) (by have:=h.pos;omega) (by have:=h.pos;omega);have h2:=(h.lens0 ((A.length-1:Nat):Int)).2;unfold iV;omega
end Go.Ax
namespace Go.Ax
open Go
section
variable {rd:Nat->Nat->Az} {a0:Nat}
def M2(rd:Nat->Nat->Az)(a0:Nat)(k:Int)(s:Pt):Pt:=⟨s.used+(rd k.toNat (a0+s.used)).used,s.vals++[(rd k.toNat (a0+s.used)).val],s.spans++(a0,a0+s.used,a0+s.used+(rd k.toNat (a0+s.used)).used)::(rd k.toNat (a0+s.used)).spans,(rd k.toNat (a0+s.used)).stop⟩
theorem k9(k:Int)(ks:List Int)(s:Pt):bH rd a0 (k::ks) s=if (rd k.toNat (a0+s.used)).stop = -1 then bH rd a0 ks (M2 rd a0 k s) else M2 rd a0 k s:=by
 rw[bH];by_cases h:(rd k.toNat (a0+s.used)).stop = -1
 ·rw[Vb h,Vb h];unfold M2;rw[h]
 ·rw[VY h,VY h];rfl
theorem sG(m:List Int):∀(l:List Int) (s:Pt),s.stop = -1->(bH rd a0 l s).stop = -1->bH rd a0 (l++m) s=bH rd a0 m (bH rd a0 l s)
 | [],s,_,_=>rfl
 | k::l,s,h,h2=>by
  rw[k9] at h2;rw[WH,k9,k9];by_cases hk:(rd k.toNat (a0+s.used)).stop = -1
  ·rw[Vb hk] at h2;rw[Vb hk,Vb hk];exact sG m l _ hk h2
  ·rw[VY hk] at h2;exact absurd h2 hk
theorem C1:∀(ks:List Int) (s:Pt),∃X,(bH rd a0 ks s).spans=s.spans++X
 | [],s=>⟨[],by simp[bH]⟩
 | k::ks,s=>by
  rw[k9];split
  ·obtain⟨X,hX⟩:=C1 ks (M2 rd a0 k s);refine⟨(a0,a0+s.used,a0+s.used+(rd k.toNat (a0+s.used)).used)::(rd k.toNat (a0+s.used)).spans++X, ?_⟩;rw[hX];unfold M2;rw[List.append_assoc]
  ·exact⟨_,rfl⟩
theorem qD{ks:List Int}{j:Nat}{s:Pt}(hj:j<ks.length)(h0:s.stop = -1)(h:(bH rd a0 (ks.take j) s).stop = -1) :
  bH rd a0 (ks.take (j+1)) s=M2 rd a0 ks[j] (bH rd a0 (ks.take j) s):=by
 rw[List.take_succ_eq_append_getElem hj,sG _ _ _ h0 h,k9];split
 ·rfl
 ·rfl
theorem xM{ks:List Int}{j:Nat}{s:Pt}(hj:j<ks.length)(h0:s.stop = -1)(h:(bH rd a0 (ks.take j) s).stop = -1)(hk:(bH rd a0 (ks.take (j+1)) s).stop≠-1) :
  bH rd a0 ks s=bH rd a0 (ks.take (j+1)) s:=by
 have e:ks=ks.take j++ks[j]::ks.drop (j+1):=by simp
 have h2:=qD (rd:=rd) (a0:=a0) hj h0 h;rw[h2] at hk ⊢
 conv=>lhs;rw[e]
 rw[sG _ _ _ h0 h,k9,VY (show ¬(rd ks[j].toNat (a0+(bH rd a0 (ks.take j) s).used)).stop = -1 from hk)]
theorem JO{ks:List Int}{j:Nat}{s:Pt}(h0:s.stop = -1)(h:(bH rd a0 (ks.take j) s).stop = -1):∃X,(bH rd a0 ks s).spans=(bH rd a0 (ks.take j) s).spans++X:=by
 have e:ks=ks.take j++ks.drop j:=by simp
 obtain⟨X,hX⟩:=C1 (rd:=rd) (a0:=a0) (ks.drop j) (bH rd a0 (ks.take j) s);exact⟨X,by rw[←hX,←sG _ _ _ h0 h,←e]⟩
theorem DR{ks:List Int}{j:Nat}{s:Pt}(hj:j<ks.length)(h0:s.stop = -1)(h:(bH rd a0 (ks.take j) s).stop = -1) :
  (bH rd a0 (ks.take j) s).spans.length+1+(rd ks[j].toNat (a0+(bH rd a0 (ks.take j) s).used)).spans.length<=(bH rd a0 ks s).spans.length:=by
 have h2:=qD (rd:=rd) (a0:=a0) hj h0 h;have h3:∃X,(bH rd a0 ks s).spans=(bH rd a0 (ks.take (j+1)) s).spans++X:=by
  by_cases hk:(bH rd a0 (ks.take (j+1)) s).stop = -1
  ·exact JO h0 hk
  ·exact⟨[],by rw[xM hj h0 h hk,Wg]⟩
 obtain⟨X,hX⟩:=h3;rw[hX,h2];unfold M2;simp only[Vf,WB];omega
end
end Go.Ax
namespace Go.Ax
open Go
section
variable {ft:Nat->Nat->Ft} {q:Nat}
theorem AZ(m:List Int):∀(l:List Int) (s:List Int × List a6),dO ft q (l++m) s=dO ft q m (dO ft q l s)
 | [],s=>rfl
 | k::l,s=>by rw[WH,dO,dO];exact AZ m l _
theorem yE{ks:List Int}{j:Nat}(hj:j<ks.length)(s:List Int × List a6) :
  dO ft q (ks.take (j+1)) s=((dO ft q (ks.take j) s).1++(ft ks[j].toNat (q+(dO ft q (ks.take j) s).1.length)).cs,(dO ft q (ks.take j) s).2++[(ft ks[j].toNat (q+(dO ft q (ks.take j) s).1.length)).val]):=by
 rw[List.take_succ_eq_append_getElem hj,AZ];rfl
theorem EP{ks:List Int}{j:Nat}(hj:j<ks.length)(s:List Int × List a6) :
  (dO ft q (ks.take j) s).1.length+(ft ks[j].toNat (q+(dO ft q (ks.take j) s).1.length)).cs.length<=(dO ft q ks s).1.length:=by
 have e:ks=ks.take (j+1)++ks.drop (j+1):=by simp
 have h2:=yE (ft:=ft) (q:=q) hj s;obtain⟨m,hm⟩:=qX (ft:=ft) (q:=q) (ks.drop (j+1)) (dO ft q (ks.take (j+1)) s);have h3:dO ft q ks s=dO ft q (ks.drop (j+1)) (dO ft q (ks.take (j+1)) s):=by
  rw[←AZ,←e]
 rw[h3,hm,h2];simp only[Vf];omega
end
theorem I2{raw:List Int}{x:Nd}{q:Nat}(h:1<=fK x)(hq:q<raw.length):min (max (raw.getD q 0) 0) (fK x-1)=cR raw x q:=by
 unfold cR;rw[Vb hq];omega
theorem G3{raw:List Int}{x:Nd}{q:Nat}(hq:¬q<raw.length):cR raw x q=0:=by
 unfold cR;rw[VY hq]
end Go.Ax
namespace Go.Ax
open Go
def pX(σ:List (Nat × Nat))(ns nx n':Nat):List (Nat × Nat)->Bool
 | []=>true
 | (i,id)::r=>(match Nat.blt i ns with
   | true=>match lk σ id with
    | some j=>Nat.beq j i
    | none=>false
   | false=>Nat.ble nx id && Nat.blt id n') && pX σ ns nx n' r
def kR(ids:List Nat)(nx:Nat):aP->Bool
 | []=>true
 | (k,_)::r=>(match Nat.ble nx k with
   | true=>true
   | false=>Ap k ids) && kR ids nx r
theorem qG{σ:List (Nat × Nat)}{ns nx n':Nat}:∀{τ:List (Nat × Nat)},pX σ ns nx n' τ=true->∀p∈τ,(p.1<ns/\lk σ p.2=some p.1)∨(ns<=p.1/\nx<=p.2/\p.2<n')
 | [],_,p,hp=>by cases hp
 | (i,id)::r,h,p,hp=>by
  simp only[pX,VZ] at h;rcases Vg.1 hp with rfl|hp
  ·have h1:=h.1;split at h1
   ·rename_i hb;split at h1
    ·rename_i j hj;exact .inl ⟨Vd hb,by rw[hj,Nat.eq_of_beq_eq_true h1]⟩
    ·cases h1
   ·rename_i hb;simp only[VZ] at h1;refine .inr ⟨?_,Vd h1.1,Vd h1.2⟩;rcases Vm i ns with hl|hl
    ·have e:Nat.blt i ns=true:=Vc hl;rw[e] at hb;cases hb
    ·exact hl
  ·exact qG h.2 p hp
theorem rK:∀{m:aP} {ids:List Nat} {nx:Nat},kR ids nx m=true->∀p∈m,nx<=p.1∨Ap p.1 ids=true
 | [],ids,nx,_,p,hp=>by cases hp
 | (k,b)::r,ids,nx,h,p,hp=>by
  simp only[kR,VZ] at h;rcases Vg.1 hp with rfl|hp
  ·have h1:=h.1;split at h1
   ·rename_i hb;exact .inl (Vd hb)
   ·exact .inr h1
  ·exact rK h.2 p hp
theorem aH.useN{P:Program}{Γ:List (Nat × AV)}{F:FuncId}{args args':List AV}{ms mem m1:aP}{ns nx:Nat}{Qs K:AV->aP->Nat->Prop}(hΓ:∀p∈Γ,NN p.2)(σ:List (Nat × Nat))(h:aH P Γ F args' ms ns Qs)
  (hp:jD (g9 σ) mem=m1) (hargs:kU m1 σ args args') (hM:cN m1 σ ms) (hc:(jX ms && (kD σ && pE ns σ))=true)
  (hk:∀r m n,Qs r m n->∃τ r' m' n',Cv m τ r r'/\cN m τ m'/\(jX m' && (kD τ && (Nat.ble nx n' && (kR (g9 σ) nx m' && pX σ ns nx n' τ))))=true/\K r' (m'++gR (g9 σ) mem) n'):aH P Γ F args mem nx K:=by
 simp only[VZ] at hc;obtain⟨hc1,hc2,hc4⟩:=hc;refine⟨fun X D ρ w vs hD hm hv=>?_⟩;refine(aH.use (K:=K) (nx:=nx) hΓ h σ (m1:=m1) (rest:=gR (g9 σ) mem) ⟨fun p hp'=>?_,fun p hp'=>(c8.1 hp').1,fun p hp'=>?_,fun p h1 q h2=>?_, ?_⟩ ?_ hargs hM.cvm (d7 hc1) (lX hc2) (fun id i hl=>lR hc4 _ (bI hl)) ?_).run X D ρ w vs hD hm hv
 ·rw[←hp] at hp';exact(d8.1 hp').1
 ·cases hi:Ap p.1 (g9 σ) with
  | true=>left;rw[←hp];exact d8.2 ⟨hp',hi⟩
  | false=>right;exact c8.2 ⟨hp',hi⟩
 ·rw[←hp] at h1;have a:=(d8.1 h1).2;have b:=(c8.1 h2).2;intro e;rw[e,b] at a;cases a
 ·rw[←hp];exact hm.nod.sublist ((nF mem).map _)
 ·exact hm.nod.sublist ((mU mem).map _)
 ·intro r m n hq hn;obtain⟨τ,r',m',n',h1,h2,h3,h4⟩:=hk r m n hq;simp only[VZ] at h3;refine⟨τ,r',m',n',Vd h3.2.2.1,h1,h2.cvm,d7 h3.1,lX h3.2.1,fun i id hl=>qG h3.2.2.2.2 _ (bI hl),fun p h5 q h6=>?_,h4⟩;have b:=(c8.1 h6).2;rcases rK h3.2.2.2.1 p h5 with a|a
  ·have:=hD _ (hm.low q (c8.1 h6).1);omega
  ·intro e;rw[e,b] at a;cases a
theorem aH.ph{P:Program}{Γ:List (Nat × AV)}{F:FuncId}{args:List AV}{mem:aP}{nx:Nat}{K:AV->aP->Nat->Prop}(t:TypeId)(sz:Nat)(h:aH P Γ F args ((nx,.row t sz [])::mem) (nx+1) K):aH P Γ F args mem nx K:=by
 refine⟨fun X D ρ w vs hD hm hv=>?_⟩;obtain⟨m1,v1,e1⟩:=hm.phantom (n:=nx) (D':=dn D nx (nx+1)) (fun h'=>W1 _ (hD _ h')) (fun i hi=>.inl hi) (.inr ⟨Vh _,WQ _⟩) t sz;refine(h.run X _ _ w vs (fun i hi=>?_) m1 ⟨hv.1,fun j c x hc hx=>v1 _ _ (hv.2 j c x hc hx)⟩).mono ?_
 ·rcases hi with hi|hi
  ·have:=hD i hi;omega
  ·exact hi.2
 ·rintro e w' ⟨r,v,m,n,ρ',rfl,hk,hn,hm',hr,ext⟩;have ed:dn (dn D nx (nx+1)) (nx+1) n=dn D nx n:=by
   funext i
   apply propext;constructor
   ·rintro((hi|⟨h1,h2⟩)|⟨h1,h2⟩)
    ·exact .inl hi
    ·exact .inr ⟨h1,om⟩
    ·exact .inr ⟨om,h2⟩
   ·rintro(hi|⟨h1,h2⟩)
    ·exact .inl (.inl hi)
    ·rcases Vm i (nx+1) with h3|h3
     ·exact .inl (.inr ⟨h1,h3⟩)
     ·exact .inr ⟨h3,h2⟩
  rw[ed] at hm' hr ext;refine⟨r,v,m,n,ρ',rfl,hk,om,hm',hr, ?_⟩;have e2:=e1 D fun i hi=>hi
  exact e2.trans ⟨fun i hi=>ext.le i (.inl hi),fun i hi=>ext.agree i (.inl hi),ext.size,ext.keep,ext.fresh,ext.env⟩
end Go.Ax
namespace Go.Ax
open Go
section
variable {P:Program} {Γ:List (Nat × AV)} {B:Nat}
theorem NR{b:Bool}{c1 c2:Code}{s1 s2:St}{i:Nat}{y:Code}{Q:Exit->St->Prop}{α:Type}(hΓ:∀p∈Γ,NN p.2)(R:α->Prop)(J:α->St)
  (h1:∀Qr:Exit->St->Prop,(∀(a:α) (s:St) (σ:List (Nat × Nat)),R a->Conv B σ s (J a)->Qr .normal s)->MV b (eD P Γ B c1 s1 (Bi i Qr)) (eD P Γ B c2 s2 (Bi i Qr)))
  (h2:∀a,R a->eD P Γ B y (J a) Q):MV b (eD P Γ B c1 s1 (Bi i (JB P Γ B y Q))) (eD P Γ B c2 s2 (Bi i (JB P Γ B y Q))):=by
 have h:=h1 (fun e s=>match e with
  | .normal=>∃a σ,R a/\Conv B σ s (J a)
  | e=>Q e s) (fun a s σ hr hc=>⟨a,σ,hr,hc⟩)
 have key:∀(e:Exit) (s:St),Bi i (fun e s=>match e with
  | .normal=>∃a σ,R a/\Conv B σ s (J a)
  | e=>Q e s) e s->Bi i (JB P Γ B y Q) e s:=by
  intro e s hq;have norm:(∃a σ,R a/\Conv B σ s (J a))->eD P Γ B y s Q:=fun⟨a,σ,hr,hc⟩=>eD.conv hΓ hc (h2 a hr)
  cases e with
  | normal=>exact norm hq
  | exit j=>
   simp only[Bi] at hq ⊢;split at hq
   ·exact norm hq
   ·exact hq
  | goto l=>exact hq
  | ret=>exact hq
  | panic c=>exact hq
  | outgrown=>exact hq
 cases b with
 | true=>exact eD.mono (show eD P Γ B c1 s1 _ from h) key
 | false=>exact eD.mono (show eD P Γ B c2 s2 _ from h) key
end
end Go.Ax
namespace Go.Ax
open Go
inductive iE where
 | ret
 | pan (x:Value)
 | recd (x:Value)
def iE.mode:iE->FrameMode
 | .ret=>.returning
 | .pan x=>.panicking [pe x]
 | .recd x=>.panicking [{ v:=x,recovered:=true }]
def MA:List Value->Option (List AV)
 | []=>some []
 | .int k n::r=>match MA r with
  | some l=>some (.int k n::l)
  | none=>none
 | .bool b::r=>match MA r with
  | some l=>some (.bool b::l)
  | none=>none
 | _=>none
def Uh:Value->Option AV
 | .iface t (.agg arr)=>match MA arr.toList with
  | some l=>some (.ifc t (.agg l))
  | none=>none
 | _=>none
theorem Cl{ρ:Nat->dG}{D:Nat->Prop}{O:Nat->Prop}{w:World}:∀{xs:List Value} {l:List AV},MA xs=some l->JC ρ D O w l xs
 | [],l,h=>by simp only[MA] at h;cases h;exact⟨.nil,by simp⟩
 | x::r,l,h=>by
  cases x<;>simp only[MA] at h<;>first|(cases h;done)|skip
  all_goals
   split at h
   ·rename_i l' hl;cases h;obtain⟨h1,h2⟩:=Cl (ρ:=ρ) (D:=D) (O:=O) (w:=w) hl;refine⟨.cons ?_ h1,fun y hy=>?_⟩
    ·first|exact .int _ _|exact .bool _
    ·rcases Vg.1 hy with rfl|hy
     ·rfl
     ·exact h2 y hy
   ·cases h
theorem Li{ρ:Nat->dG}{D:Nat->Prop}{O:Nat->Prop}{w:World}{x:Value}{v:AV}(h:Uh x=some v):VR ρ D O w v x:=by
 unfold Uh at h;split at h
 ·rename_i t arr;split at h
  ·rename_i l hl;cases h;obtain⟨h1,h2⟩:=Cl (ρ:=ρ) (D:=D) (O:=O) (w:=w) hl;exact .ifc t _ _ (.agg l arr (by have:=h1.1;simpa using this) (fun y hy=>h2 y (by simpa using hy)) fun j c y hj hy=>h1.2 j c y hj (by simpa using hy))
  ·cases h
 ·cases h
structure sS(P:Program)(Γ:List (Nat × AV))(B:Nat)(c:Code)(s:St)(m:iE)(Q:Exit->St->iE->Prop):Prop where
 run:∀(X:Nat->Prop) (ds:List Deferred) (D:Nat->Prop) (ρ:Nat->dG) (a:Act) (w:World) (c₀:Frame) (cs:List Frame),(∀i,D i->i<B)->SR Γ X (ds,0) ρ (dn D B s.nx) s a w->B<=s.nx->c₀.mode=m.mode ->
  c.wpS P (fun e a' cs' w'=>∃(s':St) (m':iE) (ρ':Nat->dG),Q e s' m'/\cs'={ c₀ with mode:=m'.mode }::cs/\B<=s'.nx/\SR Γ X (ds,0) ρ' (dn D B s'.nx) s' a' w'/\Ext D ρ s.mem w ρ' (dn D B s'.nx) s'.mem w') a (c₀::cs) w
section
variable {P:Program} {Γ:List (Nat × AV)} {B:Nat} {s:St} {m:iE} {Q:Exit->St->iE->Prop}
theorem sB{c₀:Frame}{u:FrameMode}(h:c₀.mode=u):{ c₀ with mode:=u }=c₀:=by subst h;rfl
theorem sS.of{c:Code}(hc:iF c=false)(h:eD P Γ B c s fun e s'=>Q e s' m):sS P Γ B c s m Q:=by
 refine⟨fun X ds D ρ a w c₀ cs hD hs hB hm=>wpS_of_wp (Go.wp_mono (Gj.1 (h.run none X (ds,0) D ρ a w hD hs hB (.no hc))) ?_)⟩;rintro e a' w' ⟨s',ρ',hq,hB',hs',hext⟩;exact⟨s',m,ρ',hq,by rw[sB hm],hB',hs',hext⟩
def TF(P:Program)(Γ:List (Nat × AV))(B:Nat)(y:Code)(Q:Exit->St->iE->Prop)(e:Exit)(s:St)(m:iE):Prop:=
 match e with
 | .normal=>sS P Γ B y s m Q
 | e=>Q e s m
theorem zC{c:Code}{Q Q':Exit->Act->List Frame->World->Prop}{a:Act}{cs:List Frame}{w:World}(h:c.wpS P Q a cs w)(hq:∀e a cs w,Q e a cs w->Q' e a cs w):c.wpS P Q' a cs w:=
 fun b k hb hr=>let ⟨e,a',cs',w',q,r⟩:=h b k hb hr;⟨e,a',cs',w',hq _ _ _ _ q,r⟩
theorem sS.seq{x y:Code}(h:sS P Γ B x s m (TF P Γ B y Q)):sS P Γ B (.seq x y) s m Q:=by
 refine⟨fun X ds D ρ a w c₀ cs hD hs hB hm=>wpS_seq (zC (h.run X ds D ρ a w c₀ cs hD hs hB hm) ?_)⟩;rintro e a' cs' w' ⟨s',m',ρ',hq,rfl,hB',hs',hext⟩;cases e with
 | normal=>
  refine zC ((show sS P Γ B y s' m' Q from hq).run X ds D ρ' a' w' { c₀ with mode:=m'.mode } cs hD hs' hB' rfl) ?_;rintro e a2 cs2 w2 ⟨s2,m2,ρ2,h1,rfl,h2,h3,h4⟩;exact⟨s2,m2,ρ2,h1,rfl,h2,h3,hext.trans h4⟩
 | exit i=>exact⟨s',m',ρ',hq,rfl,hB',hs',hext⟩
 | goto l=>exact⟨s',m',ρ',hq,rfl,hB',hs',hext⟩
 | ret=>exact⟨s',m',ρ',hq,rfl,hB',hs',hext⟩
 | panic c=>exact⟨s',m',ρ',hq,rfl,hB',hs',hext⟩
 | outgrown=>exact⟨s',m',ρ',hq,rfl,hB',hs',hext⟩
theorem sS.cond{c:Operand}{x y:Code}{b:Bool}(hc:ev Γ s c=some (.bool b))(h:MV b (sS P Γ B x s m Q) (sS P Γ B y s m Q)):sS P Γ B (.cond c x y) s m Q:=by
 refine⟨fun X ds D ρ a w c₀ cs hD hs hB hm=>?_⟩;have hv:=aZ hs hc;generalize he:a.eval c=cv at hv;cases hv;cases b with
 | true=>exact wpS_cond he ((show sS P Γ B x s m Q from h).run X ds D ρ a w c₀ cs hD hs hB hm)
 | false=>exact wpS_cond he ((show sS P Γ B y s m Q from h).run X ds D ρ a w c₀ cs hD hs hB hm)
def Ov(op:Op):Bool:=
 match op with
 | .call c=>match c.callee with
  | .builtin .recover=>true
  | _=>false
 | _=>false
def Ti:iE->Option (AV × iE)
 | .ret=>some (.nif,.ret)
 | .pan x=>match Uh x with
  | some v=>some (v,.recd x)
  | none=>none
 | .recd x=>some (.nif,.recd x)
def Cc(P:Program)(Γ:List (Nat × AV))(ops:List Oper):List Oper->St->iE->(St->iE->Prop)->Prop
 | [],s,m,K=>K s m
 | o::r,s,m,K=>match mP ops s o.guard with
  | none=>False
  | some false=>match eO s o.dst (.tup []) s.mem s.nx with
   | some s'=>Cc P Γ ops r s' m K
   | none=>False
  | some true=>match Ov o.op with
   | true=>match Ti m with
    | some (v,m')=>match eO s o.dst v s.mem s.nx with
     | some s'=>Cc P Γ ops r s' m' K
     | none=>False
    | none=>False
   | false=>match cT P Γ s o.op with
    | some (v,mem,nx)=>match eO s o.dst v mem nx with
     | some s'=>Cc P Γ ops r s' m K
     | none=>False
    | none=>False
theorem Lq{o:Oper}(h:Ov o.op=true)(ρ:Operand->Value)(w:World):(execOp ρ o).run P w = .ok .recover w:=by
 unfold Ov at h;split at h
 ·rename_i c hop;split at h
  ·rename_i hc;simp[execOp,hop,resolve,hc,invoke,builtin]
  ·cases h
 ·cases h
theorem Hi(ops:Array Oper):∀(l:List Nat) (s:St) (m:iE) (K:St->iE->Prop),Cc P Γ ops.toList (l.filterMap fun i=>ops[i]?) s m K ->
  ∀(X:Nat->Prop) (ds:List Deferred) (D:Nat->Prop) (ρ:Nat->dG) (a:Act) (w:World) (c₀:Frame) (cs:List Frame) (Q:Exit->Act->List Frame->World->Prop),(∀i,D i->i<B)->SR Γ X (ds,0) ρ (dn D B s.nx) s a w->B<=s.nx->c₀.mode=m.mode ->
   (∀(s':St) (m':iE) (ρ':Nat->dG) (a':Act) (w':World),K s' m'->B<=s'.nx->SR Γ X (ds,0) ρ' (dn D B s'.nx) s' a' w'->Ext D ρ s.mem w ρ' (dn D B s'.nx) s'.mem w'->Q .normal a' ({ c₀ with mode:=m'.mode }::cs) w') ->
   wpOpsS P ops Q l a (c₀::cs) w:=by
 intro l
 induction l with
 | nil=>
  intro s m K h X ds D ρ a w c₀ cs Q hD hs hB hm hQ;have:=hQ s m ρ a w h hB hs (Ext.refl fun i hi=>.inl hi);rw[sB hm] at this;exact this
 | cons i r ih=>
  intro s m K h X ds D ρ a w c₀ cs Q hD hs hB hm hQ;simp only[wpOpsS];cases ho:ops[i]? with
  | none=>
   simp only[Xv,ho] at h;exact ih s m K h X ds D ρ a w c₀ cs Q hD hs hB hm hQ
  | some o=>
   simp only[Xv,ho] at h;simp only[Cc] at h;split at h
   ·exact h.elim
   ·rename_i hw;have hw':=iD hs hw;rw[XO] at hw';simp only[hw',Wj,if_false];split at h
    ·rename_i s' hst;obtain⟨h1,h2,h3⟩:=gS hst hs hs.mr tN (fun h=>h) (fun _ _ h=>h);refine ih s' m K h X ds D ρ _ w c₀ cs Q hD (by rw[h3];exact h1) om hm fun s2 m2 ρ2 a2 w2 k1 k2 k3 k4=>hQ s2 m2 ρ2 a2 w2 k1 k2 k3 (by rw[←h2];exact k4)
    ·exact h.elim
   ·rename_i hw;have hw':=iD hs hw;rw[XO] at hw';simp only[hw',if_true];split at h
    ·rename_i hrec;rw[Lq hrec];split at h
     ·rename_i v m' hv;split at h
      ·rename_i s' hst;have main:∀(x:Value) (c1:Frame),(VR ρ (dn D B s.nx) (OX X ρ s.mem) w v x)->c1={ c₀ with mode:=m'.mode }->wpOpsS P ops Q r (a.put o.dst x) (c1::cs) w:=by
        intro x c1 hx hc1;obtain⟨h1,h2,h3⟩:=gS hst hs hs.mr hx (fun h=>h) (fun _ _ h=>h);subst hc1;exact ih s' m' K h X ds D ρ _ w { c₀ with mode:=m'.mode } cs Q hD (by rw[h3];exact h1) om rfl fun s2 m2 ρ2 a2 w2 k1 k2 k3 k4=>hQ s2 m2 ρ2 a2 w2 k1 k2 k3 (by rw[←h2];exact k4)
       cases m with
       | ret=>
        cases hv;simp only[recoverD,hm,iE.mode];exact main _ c₀ .nif (sB hm).symm
       | pan x=>
        simp only[Ti] at hv;split at hv
        ·rename_i u hu;cases hv;simp only[recoverD,hm,iE.mode,pe];exact main _ _ (Li hu) rfl
        ·cases hv
       | recd x=>
        cases hv;simp only[recoverD,hm,iE.mode];exact main _ c₀ .nif (sB hm).symm
      ·exact h.elim
     ·exact h.elim
    ·split at h
     ·rename_i v mem nx hstep;split at h
      ·rename_i s' hst;have hnx:s.nx<=nx:=by rcases y7 hstep with h'|h'<;>omega
       obtain⟨x,n,w',ρ',e1,e2,m1,v1,mono1,ext1⟩:=nT (P:=P) (D:=dn D B s.nx) (D':=dn D B nx) (fun h'=>W1 _ (uK hD hB _ h')) (wH hnx) hs o (fun e=>.inr ⟨hB,om⟩) hstep;obtain⟨h1,h2,h3⟩:=gS hst hs m1 v1 (ext1 _ fun i hi=>hi).mks mono1;have fin:wpOpsS P ops Q r (a.put o.dst x) (c₀::cs) w':=ih s' m K h X ds D ρ' _ w' c₀ cs Q hD (by rw[h3];exact h1) (by rw[h3];exact WM hB hnx) hm fun s2 m2 ρ2 a2 w2 k1 k2 k3 k4=>hQ s2 m2 ρ2 a2 w2 k1 k2 k3 ((ext1 D fun i hi=>.inl hi).trans (by rw[←h2];exact k4))
       rw[e1];rcases e2 with rfl|⟨rfl,rfl⟩
       ·exact fin
       ·exact fin
      ·exact h.elim
     ·exact h.elim
theorem FB(L:List Oper):∀(l:List Oper) (k:Nat),(∀j,L[k+j]? = l[j]?)->((List.range' k l.length).filterMap fun i=>L[i]?)=l
 | [],k,h=>rfl
 | o::r,k,h=>by
  have h0:L[k]? = some o:=by simpa using h 0
  rw[WB,List.range'_succ,Xv,h0];simp only;rw[FB L r (k+1) fun j=>by have:=h (j+1);simpa[Nat.add_assoc,Xw 1 j] using this]
theorem sS.region{id:Nat}{ops:Array Oper}(h:Cc P Γ ops.toList ops.toList s m fun s' m'=>Q .normal s' m'):sS P Γ B (.region id ops false) s m Q:=by
 refine⟨fun X ds D ρ a w c₀ cs hD hs hB hm=>wpS_region ?_⟩;have e:((List.range ops.size).filterMap fun i=>ops[i]?)=ops.toList:=by
  have:=FB ops.toList ops.toList 0 (fun j=>by rw[V0]);rw[List.range_eq_range',←Array.length_toList];simpa using this
 exact Hi ops (List.range ops.size) s m _ (by rw[e];exact h) X ds D ρ a w c₀ cs _ hD hs hB hm fun s' m' ρ' a' w' h1 h2 h3 h4=>⟨s',m',ρ',h1,rfl,h2,h3,h4⟩
def JL(P:Program)(Γ:List (Nat × AV))(H:Hk):Code->St->iE->(St->iE->Prop)->Prop
 | .skip,s,m,K=>K s m
 | .seq x y,s,m,K=>JL P Γ H x s m fun s' m'=>JL P Γ H y s' m' K
 | .cond c x y,s,m,K=>match ev Γ s c with
  | some (.bool b)=>match b with
   | true=>JL P Γ H x s m K
   | false=>JL P Γ H y s m K
  | _=>False
 | .region _ ops draw,s,m,K=>match draw with
  | false=>Cc P Γ ops.toList ops.toList s m K
  | true=>False
 | _,_,_,_=>False
theorem Iz{H:Hk}:∀(c:Code) (s:St) (m:iE) (K:St->iE->Prop),JL P Γ H c s m K->sS P Γ B c s m fun e s' m'=>match e with
  | .normal=>K s' m'
  | _=>False:=by
 intro c
 induction c with
 | skip=>exact fun s m K h=>.of rfl ⟨fun rd X ds D ρ a w hD hs hB _=>wpIn_skip ⟨s,ρ,h,hB,hs,Ext.refl fun i hi=>.inl hi⟩⟩
 | seq x y ihx ihy=>
  intro s m K h;refine sS.seq ?_;obtain⟨h'⟩:=ihx s m _ h;refine⟨fun X ds D ρ a w c₀ cs hD hs hB hm=>zC (h' X ds D ρ a w c₀ cs hD hs hB hm) ?_⟩;rintro e a' cs' w' ⟨s',m',ρ',hq,rest⟩;refine⟨s',m',ρ', ?_,rest⟩;cases e with
  | normal=>exact ihy s' m' K hq
  | _=>exact(show False from hq).elim
 | cond c x y ihx ihy=>
  intro s m K h;simp only[JL] at h;split at h
  ·rename_i b hc;refine sS.cond hc ?_;cases b with
   | true=>exact ihx s m K h
   | false=>exact ihy s m K h
  ·exact h.elim
 | region id ops draw=>
  intro s m K h;cases draw with
  | false=>exact sS.region h
  | true=>exact(show False from h).elim
 | _=>exact fun s m K h=>(show False from h).elim
def DfR(ρ:Nat->dG)(D:Nat->Prop)(O:Nat->Prop)(w:World)(v:AV)(d:Deferred):Prop:=
 ∃(F:FuncId) (first cap:List AV) (vs:List Value) (a2:Array Value),v = .fn (.func F) first cap/\d.target = .fn (.func F) a2/\d.args.toList++a2.toList=vs/\jR ρ D O w (first++cap) vs
def GZ(P:Program)(Γ:List (Nat × AV))(H:Hk)(rs:List ResultVar)(v:AV)(s:St)(m:iE)(Q:AV->aP->Nat->Prop)(Qp:Value->aP->Nat->Prop):Prop:=
 match v with
 | .fn (.func F) first cap=>match P.funcs[F]? with
  | some fn=>match fn.body with
   | some c=>match fn.name == "runtime.NumGoroutine" with
    | false=>match fn.results.toList with
     | []=>JL P Γ H c (enter fn.ntmps (first++cap) s.mem s.nx) m fun s' m'=>match m' with
      | .pan x=>Qp x s'.mem s'.nx
      | _=>match yV P rs { s with mem:=s'.mem,nx:=s'.nx } with
       | some r=>Q r s'.mem s'.nx
       | none=>False
     | _::_=>False
    | true=>False
   | none=>False
  | none=>False
 | _=>False
theorem yL{H:Hk}{X:Nat->Prop}{D:Nat->Prop}{ρ ρ0:Nat->dG}{a:Act}{w w0:World}{mem0:aP}{d:Deferred}{v:AV}{fn:Func}{Qr:AV->aP->Nat->Prop}{Qp:Value->aP->Nat->Prop}
  (hD:∀i,D i->i<B) (hs:SR Γ X ([d],0) ρ (dn D B s.nx) s a w) (hB:B<=s.nx) (hv:DfR ρ (dn D B s.nx) (OX X ρ s.mem) w v d) (hext:Ext D ρ0 mem0 w0 ρ (dn D B s.nx) s.mem w)
  (hm:m.mode≠.run) (h:GZ P Γ H fn.results.toList v s m Qr Qp) :
  Leaves P fn a.tmps (fun e w'=>∃(mem':aP) (nx':Nat) (ρ':Nat->dG),B<=nx'/\MR Γ X ρ' (dn D B nx') mem' w'/\Ext D ρ0 mem0 w0 ρ' (dn D B nx') mem' w' /\
   ((∃(r:AV) (v:Value),e = .returned v/\Qr r mem' nx'/\VR ρ' (dn D B nx') (OX X ρ' mem') w' r v)∨(∃x:Value,e = .panicked [pe x]/\Qp x mem' nx'))) [d] m.mode w:=by
 obtain⟨F,first,cap,vs,a2,rfl,ht,hvs,hvr⟩:=hv;simp only[GZ] at h;split at h<;>first|exact h.elim|skip
 rename_i fd hf;split at h<;>first|exact h.elim|skip
 rename_i c hc;split at h<;>first|exact h.elim|skip
 rename_i hname;split at h<;>first|exact h.elim|skip
 rename_i hres;have hname':¬fd.name = "runtime.NumGoroutine" := by simpa using hname
 refine⟨hm,.func F,a2,F,vs.toArray,ht, ?_, ?_⟩
 ·rw[ht,←hvs];have e:(d.args.toList++a2.toList).toArray=d.args++a2:=by apply XX;simp
  simp[invoke,callFunc,hf,hc,hname',e]
 ·refine callsD_of_wpS hf hc fun c₀ cs hc0=>?_
  have hwide:∀id,dn (dn D B s.nx) s.nx s.nx id->dn D B s.nx id:=s6 hB (Vh _);have hsr:=yI (n:=fd.ntmps) (uK hD hB) hs.mr hvr (Wb _);refine zC ((Iz (B:=s.nx) (H:=H) c _ _ _ h).run X [] (dn D B s.nx) ρ _ w c₀ cs (uK hD hB) hsr (Vh _) hc0) ?_;rintro e a' cs' w' ⟨s',m',ρ',hq,rfl,hB',hs',hext'⟩;cases e with
  | normal=>
   have hr0:(results fd a'.tmps).run P w' = .ok (.tuple #[]) w':=by
    have:=xQ (P:=P) (w:=w') (fn:=fd) (tmps:=a'.tmps) (vs:=[]) (by rw[hres];simp);simpa using this
   have ext2:=hext.trans ((hext'.sub fun i hi=>.inl hi).wide (s6 hB hB'));obtain⟨m2,mono2,_⟩:=hs'.mr.widen (s6 hB hB');refine⟨hs'.def0.eq,m'.mode,rfl,.tuple #[],hr0, ?_⟩;have hs2:SR Γ X ([],0) ρ' (dn D B s'.nx) { s with mem:=s'.mem,nx:=s'.nx } { tmps:=a.tmps,defers:=[] } w':=
    ⟨m2,Bl.start (ds:=([],0)) (Wb _),hs.size,fun i u hi=>mono2 _ _ (hext'.vr (hs.slot i u hi))⟩
   have ret:settle m'.mode = .returning->(match yV P fn.results.toList { s with mem:=s'.mem,nx:=s'.nx } with
       | some r=>Qr r s'.mem s'.nx
       | none=>False)->Leaves P fn a.tmps (fun e w'=>∃(mem':aP) (nx':Nat) (ρ':Nat->dG),B<=nx'/\MR Γ X ρ' (dn D B nx') mem' w'/\Ext D ρ0 mem0 w0 ρ' (dn D B nx') mem' w' /\
   ((∃(r:AV) (v:Value),e = .returned v/\Qr r mem' nx'/\VR ρ' (dn D B nx') (OX X ρ' mem') w' r v)∨(∃x:Value,e = .panicked [pe x]/\Qp x mem' nx'))) [] (settle m'.mode) w':=by
    intro hset hq;rw[hset];split at hq
    ·rename_i r hr;obtain⟨x,h1,h2⟩:=xG hs2 hr;exact⟨x,h1,s'.mem,s'.nx,ρ',WM hB hB',m2,ext2,.inl ⟨r,x,rfl,hq,h2⟩⟩
    ·exact hq.elim
   cases m' with
   | ret=>exact ret rfl hq
   | recd x=>exact ret rfl hq
   | pan x=>exact⟨s'.mem,s'.nx,ρ',WM hB hB',m2,ext2,.inr ⟨x,rfl,hq⟩⟩
  | _=>exact(show False from hq).elim
end
structure oL(P:Program)(Γ:List (Nat × AV))(B:Nat)(c:Code)(s:St)(Q:Exit->St->Option AV->Prop):Prop where
 run:∀(X:Nat->Prop) (D:Nat->Prop) (ρ:Nat->dG) (a:Act) (w:World),(∀i,D i->i<B)->SR Γ X ([],0) ρ (dn D B s.nx) s a w->B<=s.nx ->
  c.wp P (fun e a' w'=>∃(s':St) (v:Option AV) (ds:List Deferred) (ρ':Nat->dG),Q e s' v/\B<=s'.nx/\SR Γ X (ds,0) ρ' (dn D B s'.nx) s' a' w'/\Ext D ρ s.mem w ρ' (dn D B s'.nx) s'.mem w' /\
   (match v with
    | none=>ds=[]
    | some v=>∃d,ds=[d]/\DfR ρ' (dn D B s'.nx) (OX X ρ' s'.mem) w' v d)) a w
section
variable {P:Program} {Γ:List (Nat × AV)} {B:Nat} {s:St} {Q:Exit->St->Option AV->Prop}
theorem SR.widen{X:Nat->Prop}{ds:List Deferred × Nat}{ρ:Nat->dG}{D D':Nat->Prop}{a:Act}{w:World}(hs:SR Γ X ds ρ D s a w)(hD:∀i,D i->D' i):SR Γ X ds ρ D' s a w:=by
 obtain⟨m,mono,_⟩:=hs.mr.widen hD;exact⟨m,hs.def0,hs.size,fun i v hi=>mono _ _ (hs.slot i v hi)⟩
theorem oL.of{c:Code}(hc:iF c=false)(h:eD P Γ B c s fun e s'=>Q e s' none):oL P Γ B c s Q:=by
 refine⟨fun X D ρ a w hD hs hB=>Go.wp_mono (Gj.1 (h.run none X ([],0) D ρ a w hD hs hB (.no hc))) ?_⟩;rintro e a' w' ⟨s',ρ',hq,hB',hs',hext⟩;exact⟨s',none,[],ρ',hq,hB',hs',hext,rfl⟩
theorem DfR.vr{X:Nat->Prop}{D D':Nat->Prop}{ρ ρ':Nat->dG}{mem mem':aP}{w w':World}{v:AV}{d:Deferred}(h:Ext D ρ mem w ρ' D' mem' w')(hv:DfR ρ D (OX X ρ mem) w v d):DfR ρ' D' (OX X ρ' mem') w' v d:=by
 obtain⟨F,first,cap,vs,a2,h1,h2,h3,h4⟩:=hv;exact⟨F,first,cap,vs,a2,h1,h2,h3,h4.1,fun j c x hc hx=>h.vr (h4.2 j c x hc hx)⟩
def TX(P:Program)(Γ:List (Nat × AV))(B:Nat)(y:Code)(Q:Exit->St->Option AV->Prop)(e:Exit)(s:St)(v:Option AV):Prop:=
 match e with
 | .normal=>match v with
  | none=>oL P Γ B y s Q
  | some v=>iF y=false/\eD P Γ s.nx y s fun e s'=>Q e s' (some v)
 | e=>Q e s v
theorem oL.seq{x y:Code}(h:oL P Γ B x s (TX P Γ B y Q)):oL P Γ B (.seq x y) s Q:=by
 refine⟨fun X D ρ a w hD hs hB=>wp_seq (Go.wp_mono (h.run X D ρ a w hD hs hB) ?_)⟩;rintro e a' w' ⟨s',v,ds,ρ',hq,hB',hs',hext,hv⟩;cases e with
 | normal=>
  cases v with
  | none=>
   have hv:ds=[]:=hv;subst hv;refine Go.wp_mono ((show oL P Γ B y s' Q from hq).run X D ρ' a' w' hD hs' hB') ?_;rintro e a2 w2 ⟨s2,v2,ds2,ρ2,h1,h2,h3,h4,h5⟩;exact⟨s2,v2,ds2,ρ2,h1,h2,h3,hext.trans h4,h5⟩
  | some v=>
   obtain⟨d,rfl,hd⟩:=hv;have key:=(show iF y=false/\eD P Γ s'.nx y s' (fun e s'=>Q e s' (some v)) from hq)
   refine Go.wp_mono (Gj.1 (key.2.run none X ([d],0) (dn D B s'.nx) ρ' a' w' (uK hD hB') (hs'.widen fun i hi=>.inl hi) (Vh _) (.no key.1))) ?_;rintro e a2 w2 ⟨s2,ρ2,h1,h2,h3,h4⟩;have hd2:=hd.vr h4;obtain⟨_,mono2,_⟩:=h3.mr.widen (s6 hB' h2);obtain⟨F,first,cap,vs,a2,g1,g2,g3,g4⟩:=hd2;exact⟨s2,some v,[d],ρ2,h1,WM hB' h2,h3.widen (s6 hB' h2),hext.trans ((h4.sub fun i hi=>.inl hi).wide (s6 hB' h2)),d,rfl,F,first,cap,vs,a2,g1,g2,g3,g4.1,fun j c x hc hx=>mono2 _ _ (g4.2 j c x hc hx)⟩
 | exit i=>exact⟨s',v,ds,ρ',hq,hB',hs',hext,hv⟩
 | goto l=>exact⟨s',v,ds,ρ',hq,hB',hs',hext,hv⟩
 | ret=>exact⟨s',v,ds,ρ',hq,hB',hs',hext,hv⟩
 | panic c=>exact⟨s',v,ds,ρ',hq,hB',hs',hext,hv⟩
 | outgrown=>exact⟨s',v,ds,ρ',hq,hB',hs',hext,hv⟩
def G4(P:Program)(Γ:List (Nat × AV))(ops:List Oper):List Oper->St->(St->AV->Prop)->Prop
 | [],_,_=>False
 | o::r,s,K=>match mP ops s o.guard with
  | some true=>match o.op with
   | .defer c=>match r with
    | []=>match c.args.toList with
     | []=>match c.callee with
      | .value f=>match ev Γ s f with
       | some (.fn (.func F) first cap)=>match eO s o.dst (.tup []) s.mem s.nx with
        | some s'=>K s' (.fn (.func F) first cap)
        | none=>False
       | _=>False
      | _=>False
     | _::_=>False
    | _::_=>False
   | op=>match cT P Γ s op with
    | some (v,mem,nx)=>match eO s o.dst v mem nx with
     | some s'=>G4 P Γ ops r s' K
     | none=>False
    | none=>False
  | _=>False
theorem BA(ops:List Oper):∀(l:List Oper) (s:St) (K:St->AV->Prop),G4 P Γ ops l s K ->
  ∀(X:Nat->Prop) (D:Nat->Prop) (ρ:Nat->dG) (a:Act) (w:World) (Q:Exit->Act->World->Prop),(∀i,D i->i<B)->SR Γ X ([],0) ρ (dn D B s.nx) s a w->B<=s.nx ->
   (∀(s':St) (v:AV) (d:Deferred) (ρ':Nat->dG) (a':Act) (w':World),K s' v->B<=s'.nx->SR Γ X ([d],0) ρ' (dn D B s'.nx) s' a' w'->Ext D ρ s.mem w ρ' (dn D B s'.nx) s'.mem w'->DfR ρ' (dn D B s'.nx) (OX X ρ' s'.mem) w' v d->Q .normal a' w')->wpList P ops.toArray Q l a w
 | [],s,K,h,X,D,ρ,a,w,Q,hD,hs,hB,hQ=>h.elim
 | o::r,s,K,h,X,D,ρ,a,w,Q,hD,hs,hB,hQ=>by
  simp only[G4] at h;refine wpList_step fun K' hK'=>?_
  split at h<;>first|exact h.elim|skip
  rename_i hw;rw[iD hs hw];simp only[if_true];split at h
  ·rename_i c hop;split at h<;>first|exact h.elim|skip
   split at h<;>first|exact h.elim|skip
   rename_i hargs;split at h<;>first|exact h.elim|skip
   rename_i f hc;split at h<;>first|exact h.elim|skip
   rename_i F first cap hf
   split at h<;>first|exact h.elim|skip
   rename_i s' hst;have hv:=aZ hs hf;generalize he:a.eval f=fv at hv;cases hv with
   | fn _ _ _ a1 a2 l1 l2 r1 r2=>
    have hargs':c.args = #[]:=by apply XX;simpa using hargs
    have e1:(execOp a.eval o).run P w = .ok (.defer { target:=.fn (.func F) a2,args:=a1 }) w:=by
     simp[execOp,hop,resolve,hc,he,Deferred.ofValue,hargs']
    unfold Oper.wp;rw[e1];have hs':SR Γ X ([{ target:=.fn (.func F) a2,args:=a1 }],0) ρ (dn D B s.nx) s { a with defers:={ target:=.fn (.func F) a2,args:=a1 }::a.defers } w:=
     ⟨hs.mr,by rw[hs.def0.eq];exact Bl.start (ds:=([_],0)) (Wb _),hs.size,hs.slot⟩
    obtain⟨h1,h2,h3⟩:=gS hst hs' hs'.mr tN (fun h=>h) (fun _ _ h=>h);refine hK' _ _ (wpList_nil (hQ s' _ _ ρ _ w h (by rw[h3];exact hB) (by rw[h3];exact h1) (by rw[h2,h3];exact Ext.refl fun i hi=>.inl hi) ?_));refine⟨F,first,cap,a1.toList++a2.toList,a2,rfl,rfl,rfl, ?_⟩;rw[h2,h3];exact jR.append ⟨by simpa using l1,fun j c x h1 h2=>r1 j c x h1 (by simpa using h2)⟩ ⟨by simpa using l2,fun j c x h1 h2=>r2 j c x h1 (by simpa using h2)⟩
  ·rename_i hnd;split at h<;>first|exact h.elim|skip
   rename_i v mem nx hstep;split at h<;>first|exact h.elim|skip
   rename_i s' hst;have hnx:s.nx<=nx:=by rcases y7 hstep with h'|h'<;>omega
   obtain⟨x,n,w',ρ',e1,e2,m1,v1,mono1,ext1⟩:=nT (P:=P) (D:=dn D B s.nx) (D':=dn D B nx) (fun h'=>W1 _ (uK hD hB _ h')) (wH hnx) hs o (fun e=>.inr ⟨hB,om⟩) hstep;obtain⟨h1,h2,h3⟩:=gS hst hs m1 v1 (ext1 _ fun i hi=>hi).mks mono1;have fin:K' (a.put o.dst x) w':=hK' _ _ (BA ops r s' K h X D ρ' _ w' Q hD (by rw[h3];exact h1) (by rw[h3];exact WM hB hnx) fun s2 v2 d2 ρ2 a2 w2 k1 k2 k3 k4 k5=>hQ s2 v2 d2 ρ2 a2 w2 k1 k2 k3 ((ext1 D fun i hi=>.inl hi).trans (by rw[←h2];exact k4)) k5);unfold Oper.wp;rw[e1];rcases e2 with rfl|⟨rfl,rfl⟩
   ·exact fin
   ·exact fin
theorem oL.region{id:Nat}{ops:Array Oper}(h:G4 P Γ ops.toList ops.toList s fun s' v=>Q .normal s' (some v)):oL P Γ B (.region id ops false) s Q:=by
 refine⟨fun X D ρ a w hD hs hB=>wp_region_list ?_⟩;have:=BA ops.toList ops.toList s _ h X D ρ a w (fun e a' w'=>∃(s':St) (v:Option AV) (ds:List Deferred) (ρ':Nat->dG),Q e s' v/\B<=s'.nx/\SR Γ X (ds,0) ρ' (dn D B s'.nx) s' a' w'/\Ext D ρ s.mem w ρ' (dn D B s'.nx) s'.mem w' /\
   (match v with
    | none=>ds=[]
    | some v=>∃d,ds=[d]/\DfR ρ' (dn D B s'.nx) (OX X ρ' s'.mem) w' v d)) hD hs hB
  (fun s' v d ρ' a' w' h1 h2 h3 h4 h5=>⟨s',some v,[d],ρ',h1,h2,h3,h4,d,rfl,h5⟩)
 simpa using this
def Pk(P:Program)(Γ:List (Nat × AV))(H:Hk)(rs:List ResultVar)(Q:AV->aP->Nat->Prop)(Qp:Value->aP->Nat->Prop)(s:St)(v:Option AV):Prop:=
 match v with
 | none=>match yV P rs s with
  | some r=>Q r s.mem s.nx
  | none=>False
 | some v=>GZ P Γ H rs v s .ret Q Qp
def Uy(P:Program)(Γ:List (Nat × AV))(H:Hk)(rs:List ResultVar)(Q:AV->aP->Nat->Prop)(Qp:Value->aP->Nat->Prop)(x:Value)(s:St)(v:Option AV):Prop:=
 match v with
 | none=>Qp x s.mem s.nx
 | some v=>GZ P Γ H rs v s (.pan x) Q Qp
def CD(P:Program)(Γ:List (Nat × AV))(H:Hk)(rs:List ResultVar)(Q:AV->aP->Nat->Prop)(Qp:Value->aP->Nat->Prop):Exit->St->Option AV->Prop:=fun e s v=>
 match e with
 | .normal=>Pk P Γ H rs Q Qp s v
 | .ret=>Pk P Γ H rs Q Qp s v
 | .panic [⟨x,false,false⟩]=>Uy P Γ H rs Q Qp x s v
 | _=>False
theorem s7{H:Hk}{F:FuncId}{fn:Func}{c:Code}{args:List AV}{mem:aP}{nx:Nat}{Q:AV->aP->Nat->Prop}{Qp:Value->aP->Nat->Prop}(hf:P.funcs[F]? = some fn)(hb:fn.body=some c)
  (h:oL P Γ nx c (enter fn.ntmps args mem nx) (CD P Γ H fn.results.toList Q Qp)) (hF:Nat.beq F YF=false:=by rfl):bP P Γ F args mem nx Q Qp:=by
 refine⟨fun X D ρ w vs hD hm hv=>.of hF (calls_of_wp_defers hf hb ?_)⟩;refine Go.wp_mono (h.run X D ρ _ w hD (yI hD hm hv (Wb _)) (Vh _)) ?_;rintro e a' w' ⟨s',v,ds,ρ',hq,hB',hs',hext,hv⟩;have ret:Pk P Γ H fn.results.toList Q Qp s' v->Leaves P fn a'.tmps (fun e w'=>∃(mem':aP) (nx':Nat) (ρ':Nat->dG),nx<=nx'/\MR Γ X ρ' (dn D nx nx') mem' w'/\Ext D ρ mem w ρ' (dn D nx nx') mem' w' /\
   ((∃(r:AV) (v:Value),e = .returned v/\Q r mem' nx'/\VR ρ' (dn D nx nx') (OX X ρ' mem') w' r v)∨(∃x:Value,e = .panicked [pe x]/\Qp x mem' nx'))) a'.defers .returning w':=by
  intro hq;cases v with
  | none=>
   have hv:ds=[]:=hv;subst hv;rw[hs'.def0.eq];simp only[Pk] at hq;split at hq
   ·rename_i r hr;obtain⟨x,h1,h2⟩:=xG hs' hr;exact⟨x,h1,s'.mem,s'.nx,ρ',hB',hs'.mr,hext,.inl ⟨r,x,rfl,hq,h2⟩⟩
   ·exact hq.elim
  | some v=>
   obtain⟨d,rfl,hd⟩:=hv;rw[hs'.def0.eq];exact yL (B:=nx) (m:=.ret) hD hs' hB' hd hext (by simp[iE.mode]) hq
 cases e with
 | normal=>exact ret hq
 | ret=>exact ret hq
 | panic ch=>
  unfold CD at hq;split at hq
  ·rename_i e;cases e
  ·rename_i e;cases e
  ·rename_i x e;cases e
   show Leaves P fn a'.tmps _ a'.defers (.panicking [pe x]) w'
   cases v with
   | none=>
    have hv:ds=[]:=hv;subst hv;rw[hs'.def0.eq];exact⟨s'.mem,s'.nx,ρ',hB',hs'.mr,hext,.inr ⟨x,rfl,hq⟩⟩
   | some v=>
    obtain⟨d,rfl,hd⟩:=hv;rw[hs'.def0.eq];exact yL (B:=nx) (m:=.pan x) hD hs' hB' hd hext (by simp[iE.mode]) hq
  ·exact hq.elim
 | _=>exact(show False from hq).elim
end
end Go.Ax
namespace Go.Ax
open Go
def MM(F:Nat):List Nat->Bool
 | []=>false
 | G::r=>match Nat.beq G F with
  | true=>true
  | false=>MM F r
def Qu:List Oper->Bool
 | []=>false
 | o::r=>match o.op with
  | .defer _=>true
  | _=>Qu r
def Jb(cl:Bool)(P:Program)(Γ:List (Nat × AV))(H:Hk):Code->St->(Exit->St->Option AV->Prop)->Prop
 | .seq x y,s,Q=>Jb cl P Γ H x s fun e s' v=>match e with
  | .normal=>match v with
   | none=>Jb cl P Γ H y s' Q
   | some v=>match iF y with
    | false=>AE cl P Γ H y s' fun e s''=>Q e s'' (some v)
    | true=>False
  | e=>Q e s' v
 | .region id ops draw,s,Q=>match Qu ops.toList with
  | true=>match draw with
   | false=>G4 P Γ ops.toList ops.toList s fun s' v=>Q .normal s' (some v)
   | true=>False
  | false=>AE cl P Γ H (.region id ops draw) s fun e s'=>Q e s' none
 | c,s,Q=>match iF c with
  | false=>AE cl P Γ H c s fun e s'=>Q e s' none
  | true=>False
theorem Je{cl:Bool}{P:Program}{Γ:List (Nat × AV)}{H:Hk}(hH:∀B,AG P Γ B H)(B:Nat):∀(c:Code) (s:St) (Q:Exit->St->Option AV->Prop),Jb cl P Γ H c s Q->oL P Γ B c s Q:=by
 intro c
 induction c with
 | seq x y ihx ihy=>
  intro s Q h;simp only[Jb] at h;refine oL.seq ?_;obtain⟨h'⟩:=ihx s _ h;refine⟨fun X D ρ a w hD hs hB=>Go.wp_mono (h' X D ρ a w hD hs hB) ?_⟩;rintro e a' w' ⟨s',v,ds,ρ',hq,rest⟩;refine⟨s',v,ds,ρ', ?_,rest⟩;cases e with
  | normal=>
   cases v with
   | none=>exact ihy s' Q hq
   | some v=>
    simp only at hq;split at hq
    ·rename_i hr;exact⟨hr,eH (hH s'.nx) y s' _ hq⟩
    ·exact hq.elim
  | exit i=>exact hq
  | goto l=>exact hq
  | ret=>exact hq
  | panic c=>exact hq
  | outgrown=>exact hq
 | region id ops draw=>
  intro s Q h;simp only[Jb] at h;split at h
  ·split at h
   ·exact oL.region h
   ·exact h.elim
  ·exact .of rfl (eH (hH B) _ _ _ h)
 | _=>
  intro s Q h;simp only[Jb] at h;split at h
  ·rename_i hr;exact .of hr (eH (hH B) _ _ _ h)
  ·exact h.elim
def Js(P:Program)(Γ:List (Nat × AV))(H:Hk)(args:List AV)(mem:aP)(nx:Nat)(K:AV->aP->Nat->Prop):Prop:=
 match args with
 | .yld id::rest=>opt (lk mem id) fun b=>match b with
  | .loop sl nt ps ca cb st pd=>match iF ca with
   | false=>match iF cb with
    | false=>opt (A6 nt ps.toList rest sl) fun sl'=>AE true P Γ H ca ⟨sl',mem,nx,nt⟩ fun e s1=>match e with
     | .normal=>Dw s1 fun sl1 m1 n1 t1=>opt (lk m1 id) fun b1=>match b1 with
      | .loop sl nt ps ca cb' .ready pd=>IZ m1 id (.loop sl nt ps ca cb' .busy pd) fun m2=>AE true P Γ H cb ⟨sl1,m2,n1,t1⟩ fun e s3=>Dw s3 fun _ m3 n3 _=>opt (lk m3 id) fun b3=>match b3 with
       | .loop sl nt ps ca cb _ _=>match e with
        | .normal=>IZ m3 id (.loop sl nt ps ca cb .ready none) fun m=>K (.bool true) m n3
        | .ret=>IZ m3 id (.loop sl nt ps ca cb .done (some .ret)) fun m=>K (.bool false) m n3
        | .exit i=>IZ m3 id (.loop sl nt ps ca cb .done (some (.exit i))) fun m=>K (.bool false) m n3
        | _=>False
       | _=>False
      | _=>False
     | _=>False
    | true=>False
   | true=>False
  | _=>False
 | _=>False
theorem Gm{P:Program}{Γ:List (Nat × AV)}{H:Hk}(hH:∀B,AG P Γ B H){args:List AV}{mem:aP}{nx:Nat}{K:AV->aP->Nat->Prop}{Kp:Value->aP->Nat->Prop}(h:Js P Γ H args mem nx K):bP P Γ YF args mem nx K Kp:=by
 unfold Js at h;split at h<;>first|exact h.elim|skip
 obtain⟨b,h1,h⟩:=cG.1 h;split at h<;>first|exact h.elim|skip
 split at h<;>first|exact h.elim|skip
 rename_i ha;split at h<;>first|exact h.elim|skip
 rename_i hb;obtain⟨sl',h2,h⟩:=cG.1 h;refine bP.round h1 h2 ha hb ((eH (hH nx) _ _ _ h).mono fun e s1 h=>?_);unfold SS;split at h<;>first|exact h.elim|skip
 obtain⟨b1,h3,h⟩:=cG.1 (mD.1 h);simp only[h3];split at h<;>first|exact h.elim|skip
 refine(eH (hH nx) _ _ _ (lV.1 h)).mono fun e s3 h=>?_
 unfold Sb;obtain⟨b3,h4,h⟩:=cG.1 (mD.1 h);simp only[h4];split at h<;>first|exact h.elim|skip
 split at h
 ·exact lV.1 h
 ·exact lV.1 h
 ·exact lV.1 h
 ·exact h.elim
end Go.Ax
