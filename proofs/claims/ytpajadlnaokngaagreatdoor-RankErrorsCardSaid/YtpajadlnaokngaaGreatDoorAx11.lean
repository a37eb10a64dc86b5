/- A part of the proof. -/
import Derived.Test.YtpajadlnaokngaaGreatDoorAx10
import Derived.Test.YtpajadlnaokngaaGreatDoorProg
import Derived.KernelRfl
set_option linter.unusedVariables false
set_option linter.unusedSimpArgs false
set_option linter.unusedSectionVars false
namespace Go.Proofs.YtpajadlnaokngaaGreatDoor
open Go Go.Ax Go.Proofs Tryz
set_option maxRecDepth 100000
set_option maxHeartbeats 8000000
theorem KP(s:List UInt8)(hs:s.length<=4294967296):aZ prog [] 210 [.str s] (.bool (dI s)):=by
  refine aN bI func210 rfl ?_;refine Rr ?_;refine aE (fun h=>?_) (fun h=>?_)
  · rw[h]
    refine Rr ?_;refine aA nn ⟨?_,rfl,rfl⟩;rw[oC (by simp at h;rw[h];simp)]
  have h1:1<=s.length:=by
    rcases M5 s.length with h'|h'
    · rw[h'] at h;simp at h
    · exact h'
  rw[h];refine Rr ?_;refine aE (fun h=>?_) (fun h=>?_)
  · rw[h]
    refine Rr ?_;refine aA nn ⟨?_,rfl,rfl⟩;rw[mU (by simp at h;omega)]
  have h2:s.length<=16:=by simp at h;omega
  rw[h];obtain⟨a,ha⟩:∃a,s[0]? = some a:=⟨s[0],by simp⟩
  refine Rr ?_;refine aD ha ?_;refine Rr ?_;refine aE (fun h=>?_) (fun h=>?_)
  · rw[h]
    refine Rr ?_;refine aA nn ⟨?_,rfl,rfl⟩;rw[gN ha (by simp[jR] at *;omega)]
  have h3:65<=(a.toNat:Int):=by simpa using h
  rw[h];refine Rr ?_;refine aD ha ?_;refine Rr ?_;refine aE (fun h=>?_) (fun h=>?_)
  · refine Rr ?_
    refine aA nn ⟨?_,rfl,rfl⟩;rw[gN ha (by simp[jR] at *;omega)]
  have h4:(a.toNat:Int)<=90:=by simpa using h
  refine Rr ?_;refine a6.at bI (fun i:Nat=>i<=s.length/\∀j c,j<i->s[j]? = some c->pY c.toNat=true)
    (fun i=>⟨[(0,.str s),(3,.int .i64 i)],[],0,59⟩) (fun i=>s.length-i) 0 [] ⟨by simp,by simp⟩
    (bV ⟨aG,aG,trivial⟩) ?_
  rintro i ⟨hi,hall⟩;refine Rr ?_;refine aE (fun h=>?_) (fun h=>?_)
  · have hlt:i<s.length:=by simpa using h
    obtain⟨c,hc⟩:∃c,s[i]? = some c:=⟨s[i],by simp[hlt]⟩
    have hc':s[(i:Int).toNat]? = some c:=by rw[Mo];exact hc
    refine Rr ?_;refine aD hc' ?_;refine Rr ?_;repeat' (refine aE (fun h=>?_) (fun h=>?_)<;>((try rw[h]);refine Rr ?_))
    all_goals first
      | (refine aA nn ⟨?_,rfl,rfl⟩
         rw[q9 hc (by rw[Nq];simp[pY] at *;omega)])
      | (refine .mk (i+1) [] ⟨om,fun j c2 hj hc2=>?_⟩ (bV ⟨aG,⟨_,rfl,.w64 om ⟨om,om⟩⟩,trivial⟩) om
         rcases Mq j i with hj'|hj'
         · exact hall j c2 hj' hc2
         · have hji:j=i:=om
           rw[hji,hc] at hc2;cases hc2;simp[pY] at *;omega)
  · refine Rr ?_
    refine aA nn ⟨?_,rfl,rfl⟩;have hk:i=s.length:=by simp at h;omega
    rw[qS ha h2 (by simp[jR];omega) fun j c hc=>hall j c (by rw[hk];exact(Mi.1 hc).1) hc]
theorem Iz(x:Nd):aZ prog [] 209 [bN x] (.bool (gK x)):=by
 obtain⟨kind,name,lo,hi,ws,ls,vals,kids,⟨vk,vn,vs,vks⟩⟩:=x;refine aN bI func209 rfl ?_;rcases(show kind=0∨kind=1∨kind=2∨kind=3∨kind=4∨(kind≠0/\kind≠1/\kind≠2/\kind≠3/\kind≠4) by omega) with rfl|rfl|rfl|rfl|rfl|hk
 all_goals
  refine Rr ?_;repeat' (refine aE (fun h=>?_) (fun h=>?_)<;>((try rw[h]);refine Rr ?_))
 all_goals
  refine aA nn ⟨?_,rfl,rfl⟩;congr 1;rw[NE];simp_all[gK,xI,aB,aC,bA,NX]
theorem IB(x:Nd)(hx:oH x):aZ prog [] 134 [bN x] (.bool (cZ x)):=by
 have b1:=hx.lo;have b2:=hx.hi;have b3:=hx.weights;clear hx;obtain⟨kind,name,lo,hi,ws,ls,vals,kids,⟨vk,vn,vs,vks⟩⟩:=x;simp only[i64] at b1 b2 b3;have hnum:cZ ⟨kind,name,lo,hi,ws,ls,vals,kids,.mk vk vn vs vks⟩=(decide (lo<=hi) && decide (-4611686018427387904<=lo) && decide (hi<=4611686018427387904) && decide (hi<lo+1099511627776) && ws.all fun w=>decide (1<=w) && decide (w<=1000)):=rfl;generalize cZ ⟨kind,name,lo,hi,ws,ls,vals,kids,.mk vk vn vs vks⟩=res at hnum;have hF:∀P:Prop,(res=true->P)->(¬P)->res=false:=fun P h1 h2=>by
  cases hr:res with
  | false=>rfl
  | true=>exact absurd (h1 hr) h2
 refine aN bI func134 rfl ?_;refine Rr ?_;refine aE (fun h=>?_) (fun h=>?_)
 ·rw[h];refine Rr ?_;refine aA nn ⟨?_,rfl,rfl⟩;rw[hF (lo<=hi) (by intro e;rw[hnum] at e;simp at e;omega) (by simp at h;omega)]
 have h1:lo<=hi:=by simpa using h
 rw[h];refine Rr ?_;refine aE (fun h=>?_) (fun h=>?_)
 ·rw[h];refine Rr ?_;refine aA nn ⟨?_,rfl,rfl⟩;rw[hF (-4611686018427387904<=lo) (by intro e;rw[hnum] at e;simp at e;omega) (by simp at h;omega)]
 have h2 : -4611686018427387904<=lo:=by simpa using h
 rw[h];refine Rr ?_;refine aE (fun h=>?_) (fun h=>?_)
 ·rw[h];refine Rr ?_;refine aA nn ⟨?_,rfl,rfl⟩;rw[hF (hi<=4611686018427387904) (by intro e;rw[hnum] at e;simp at e;omega) (by simp at h;omega)]
 have h3:hi<=4611686018427387904:=by simpa using h
 rw[h];have hw:IntKind.i64.wrap (lo+1099511627776)=lo+1099511627776:=w64 rfl ⟨om,om⟩;refine Rr ?_;rw[hw];refine aE (fun h=>?_) (fun h=>?_)
 ·refine Rr ?_;refine aA nn ⟨?_,rfl,rfl⟩;rw[hF (hi<lo+1099511627776) (by intro e;rw[hnum] at e;simp at e;omega) (by simp at h;omega)]
 have h4:hi<lo+1099511627776:=by simpa using h
 refine Rr ?_;refine a6.at bI (fun k:Nat=>k<=ws.length/\∀j w,j<k->ws[j]? = some w->1<=w/\w<=1000)
  (fun k=>⟨[(1,.ptr 0 0 0),(3,.int .i64 k)],[(0,.row 59 12 [bN ⟨kind,name,lo,hi,ws,ls,vals,kids,.mk vk vn vs vks⟩])],1,48⟩) (fun k=>ws.length-k) 0 [(0,0)] ⟨by simp,by simp⟩
  (aH _ rfl ⟨aI 0 (.cons (aQ _) .nil),trivial⟩ ⟨aL,aG,trivial⟩) ?_
 rintro k ⟨hk,hall⟩;refine Rr ?_;refine aE (fun h=>?_) (fun h=>?_)
 ·have hlt:k<ws.length:=by rw[aC] at h;simpa using h
  have e1:(aX ws)[(k:Int).toNat]? = some (.int .i64 ws[k]):=by rw[Mo,bL,Mf hlt];rfl
  have hg:ws[k]? = some ws[k]:=Mf hlt;generalize ws[k]=w at e1 hg;have hbad:(1<=w/\w<=1000->False)->res=false:=fun hb=>hF (1<=w/\w<=1000) (by
   intro e;rw[hnum] at e;simp only[Mg,Nj,M4] at e;exact e.2 w (My hg)) hb
  refine Rr ?_;refine aD e1 ?_;refine Rr ?_;refine aE (fun h=>?_) (fun h=>?_)
  ·rw[h];refine Rr ?_;refine aA nn ⟨?_,rfl,rfl⟩;rw[hbad (by simp at h;omega)]
  ·have g1:1<=w:=by simpa using h
   rw[h];refine Rr ?_;refine aD e1 ?_;refine Rr ?_;refine aE (fun h=>?_) (fun h=>?_)
   ·refine Rr ?_;refine aA nn ⟨?_,rfl,rfl⟩;rw[hbad (by simp at h;omega)]
   ·have g2:w<=1000:=by simpa using h
    refine Rr ?_;refine .mk (k+1) [(0,0)] ⟨om,fun j w2 hj hw2=>?_⟩ (aH _ rfl ⟨aI 0 (.cons (aQ _) .nil),trivial⟩ ⟨aL,⟨_,rfl,.w64 om ⟨om,om⟩⟩,trivial⟩) om;rcases Mq j k with hj'|hj'
    ·exact hall j w2 hj' hw2
    ·have hjk:j=k:=om;rw[hjk,hg] at hw2;cases hw2;exact⟨g1,g2⟩
 ·have hk':k=ws.length:=by rw[aC] at h;simp at h;omega
  refine Rr ?_;refine aA nn ⟨?_,rfl,rfl⟩;rw[hnum];congr 1;symm;simp only[Mg,Nj,M4];refine⟨⟨⟨⟨h1,h2⟩,h3⟩,h4⟩,fun w hw=>?_⟩;obtain⟨j,hj⟩:=M9 hw;exact hall j w (by rw[hk'];exact(Mi.1 hj).1) hj
theorem G5(x:Int):aZ prog [] 226 [.int .i64 x] (.bool false):=by
 refine fA bI func226 rfl ?_
 conv=>whnf
 refine aA (.bool _) ⟨?_,rfl,rfl⟩;simp
theorem II(x:List UInt8):aZ prog [] 227 [.str x] (.bool false):=by
 refine fA bI func227 rfl ?_
 conv=>whnf
 refine aA (.bool _) ⟨?_,rfl,rfl⟩;simp
theorem H7(x y:Int):aZ prog [] 159 [.int .i64 x,.int .i64 y] (.int .i64 (nU x y)):=by
 refine fA bI func159 rfl ?_
 conv=>whnf
 refine(G5 x).use bI (.cons (.int _ _) .nil) (.bool _) ?_
 conv=>whnf
 refine(G5 y).use bI (.cons (.int _ _) .nil) (.bool _) ?_
 conv=>whnf
 refine aE (fun h=>?_) (fun h=>?_)
 ·conv=>whnf
  refine aA (.int _ _) ⟨?_,rfl,rfl⟩;simp at h;simp[nU,h]
 conv=>whnf
 refine aE (fun h'=>?_) (fun h'=>?_)
 ·conv=>whnf
  refine aA (.int _ _) ⟨?_,rfl,rfl⟩;simp at h h';simp only[nU];rw[Mm om,Mr om]
 ·conv=>whnf
  refine aA (.int _ _) ⟨?_,rfl,rfl⟩;simp at h h';simp only[nU];rw[Mm om,Mm om]
theorem KB(x y:List UInt8):aZ prog [] 160 [.str x,.str y] (.int .i64 (gD x y)):=by
 refine fA bI func160 rfl ?_
 conv=>whnf
 refine(II x).use bI (.cons (.str _) .nil) (.bool _) ?_
 conv=>whnf
 refine(II y).use bI (.cons (.str _) .nil) (.bool _) ?_
 conv=>whnf
 refine aE (fun h=>?_) (fun h=>?_)
 ·conv=>whnf
  refine aA (.int _ _) ⟨?_,rfl,rfl⟩;rw[z9.1 h]
 conv=>whnf
 refine aE (fun h'=>?_) (fun h'=>?_)
 ·conv=>whnf
  refine aA (.int _ _) ⟨?_,rfl,rfl⟩;rw[F8 h h']
 ·conv=>whnf
  refine aA (.int _ _) ⟨?_,rfl,rfl⟩;rw[Fs h h']
theorem IU(l1 l2:List aT)(hb:l1.length<=4294967296)(hc:∀a∈l1,∀b∈l2,aZ prog [] 83 [cD a,cD b] (.int .i64 (bU a b))) :
  aZ prog [] 161 [.il 4 (aO l1),.il 4 (aO l2),.fn (.func 83) [] []] (.int .i64 (Go.Ax.d7 l1 l2)):=by
 have n1:NN (.il 4 (aO l1)):=.il' (aY l1);have n2:NN (.il 4 (aO l2)):=.il' (aY l2);have n3:NN (.fn (.func 83) [] []):=.fn _ _ _ (by simp) (by simp);refine fA bI func161 rfl ?_
 conv=>whnf
 refine dW.loopAt bI (fun k:Nat=>k<=l1.length/\k<=l2.length/\Go.Ax.d7 l1 l2=Go.Ax.d7 (l1.drop k) (l2.drop k))
  (fun k=>⟨[(0,.il 4 (aO l1)),(1,.il 4 (aO l2)),(2,.fn (.func 83) [] []),(11,.il 4 (aO l1)),(12,.int .i64 (aO l1).length),(13,.int .i64 k)],[],0,39⟩)
  (fun k=>l1.length-k) 0 [] ⟨by simp,by simp,by simp⟩
  (bV ⟨a9 n1,a9 n2,a9 n3,a9 n1,a9 (.int _ _),a9 (.int _ _),trivial⟩) ?_
 rintro k ⟨h1,h2,h3⟩
 conv=>whnf
 refine aE (fun h=>?_) (fun h=>?_)
 ·have hk:k<l1.length:=by rw[aB] at h;simpa using h
  obtain⟨⟨ka,na,sa,ksa⟩,hv⟩:∃v,v=l1[k]:=⟨_,rfl⟩
  have hm:aT.mk ka na sa ksa∈l1:=by rw[hv];exact NL hk
  have e:(aO l1)[(k:Int).toNat]? = some (cD (.mk ka na sa ksa)):=by rw[Mo,lX,Mf hk,hv];rfl
  conv=>whnf
  refine aD e ?_
  conv=>whnf
  refine aE (fun h'=>?_) (fun h'=>?_)
  ·have hk2:k=l2.length:=by rw[aB] at h';simp at h';omega
   conv=>whnf
   refine aA (.int _ _) ⟨?_,rfl,rfl⟩;rw[h3,NU (l:=l2) om,List.drop_eq_getElem_cons hk,Go.Ax.d7]
  ·have hk2:k<l2.length:=by rw[aB] at h';simpa using h'
   obtain⟨⟨kb,nb,sb,ksb⟩,hv2⟩:∃v,v=l2[k]:=⟨_,rfl⟩
   have hm2:aT.mk kb nb sb ksb∈l2:=by rw[hv2];exact NL hk2
   have e2:(aO l2)[(k:Int).toNat]? = some (cD (.mk kb nb sb ksb)):=by rw[Mo,lX,Mf hk2,hv2];rfl
   conv=>whnf
   refine aD e2 ?_
   conv=>whnf
   refine(hc _ hm _ hm2).use bI (.cons (eD _) (.cons (eD _) .nil)) (.int _ _) ?_
   conv=>whnf
   have hs:=AC hk hk2;rw[←hv,←hv2] at hs;refine aE (fun h4=>?_) (fun h4=>?_)
   ·conv=>whnf
    refine aA (.int _ _) ⟨?_,rfl,rfl⟩;have h4:bU (.mk ka na sa ksa) (.mk kb nb sb ksb)≠0:=by simpa using h4
    rw[h3,hs,andThen,Mm h4]
   ·have h4:bU (.mk ka na sa ksa) (.mk kb nb sb ksb)=0:=by simpa using h4
    conv=>whnf
    refine .mk (k+1) [] ⟨om,om, ?_⟩ (bV ⟨a9 n1,a9 n2,a9 n3,a9 n1,a9 (.int _ _),⟨_,rfl,.eq (.int _ _) ?_⟩,trivial⟩) om
    ·rw[h3,hs,andThen,Mr h4]
    ·rw[fC ⟨om,om⟩];rfl
 ·have hk:k=l1.length:=by rw[aB] at h;simp at h;omega
  have hd:l1.drop k=[]:=NU om
  conv=>whnf
  refine aE (fun h'=>?_) (fun h'=>?_)
  ·have hk2:l1.length<l2.length:=by rw[aB,aB] at h';simpa using h'
   conv=>whnf
   refine aA (.int _ _) ⟨?_,rfl,rfl⟩;rw[h3,hd,List.drop_eq_getElem_cons (show k<l2.length by omega),Go.Ax.d7]
  ·have hk2:l2.length<=l1.length:=by rw[aB,aB] at h';simpa using h'
   conv=>whnf
   refine aA (.int _ _) ⟨?_,rfl,rfl⟩;rw[h3,hd,NU om,Go.Ax.d7]
theorem n4:∀(a b:aT),gC a->aZ prog [] 83 [cD a,cD b] (.int .i64 (bU a b))
 | .mk ka na sa ksa,.mk kb nb sb ksb,ha=>by
  simp only[gC] at ha;have hkids:∀a∈ksa,∀b∈ksb,aZ prog [] 83 [cD a,cD b] (.int .i64 (bU a b)):=fun a hm b _=>n4 a b (l6 ha.2.2.2.2 a hm)
  refine fA bI func83 rfl ?_
  conv=>whnf
  refine(H7 ka kb).use bI (.cons (.int _ _) (.cons (.int _ _) .nil)) (.int _ _) ?_
  conv=>whnf
  refine aE (fun h=>?_) (fun h=>?_)
  ·conv=>whnf
   refine aA (.int _ _) ⟨?_,rfl,rfl⟩;have h:nU ka kb≠0:=by simpa using h
   rw[bU,andThen,Mm h]
  have h:nU ka kb=0:=by simpa using h
  conv=>whnf
  refine(H7 na nb).use bI (.cons (.int _ _) (.cons (.int _ _) .nil)) (.int _ _) ?_
  conv=>whnf
  refine aE (fun h2=>?_) (fun h2=>?_)
  ·conv=>whnf
   refine aA (.int _ _) ⟨?_,rfl,rfl⟩;have h2:nU na nb≠0:=by simpa using h2
   rw[bU,andThen,Mr h,andThen,Mm h2]
  have h2:nU na nb=0:=by simpa using h2
  conv=>whnf
  refine(KB sa sb).use bI (.cons (.str _) (.cons (.str _) .nil)) (.int _ _) ?_
  conv=>whnf
  refine aE (fun h3=>?_) (fun h3=>?_)
  ·conv=>whnf
   refine aA (.int _ _) ⟨?_,rfl,rfl⟩;have h3:gD sa sb≠0:=by simpa using h3
   rw[bU,andThen,Mr h,andThen,Mr h2,andThen,Mm h3]
  have h3:gD sa sb=0:=by simpa using h3
  conv=>whnf
  refine(IU ksa ksb ha.2.2.2.1 hkids).use bI (.cons (.il' (aY _)) (.cons (.il' (aY _)) (.cons (.fn _ _ _ (by simp) (by simp)) .nil))) (.int _ _) ?_
  conv=>whnf
  refine aA (.int _ _) ⟨?_,rfl,rfl⟩;rw[bU,andThen,Mr h,andThen,Mr h2,andThen,Mr h3]
 termination_by a=>SizeOf.sizeOf a
 decreasing_by simp;have:=Nm hm;omega
theorem Ce(b:Bool):aZ prog [] 68 [.bool b] (.int .i64 (if b then -1 else 1)):=by
 refine fA bI func68 rfl ?_
 conv=>whnf
 refine aE (fun h=>?_) (fun h=>?_)
 ·conv=>whnf
  exact aA (.int _ _) ⟨by rw[h];rfl,rfl,rfl⟩
 ·conv=>whnf
  exact aA (.int _ _) ⟨by rw[h];rfl,rfl,rfl⟩
theorem sL:∀(a b:aT),gC a->aZ prog [] 31 [cD a,cD b] (.int .i64 (bU a b))
 | .mk ka na sa ksa,.mk kb nb sb ksb,ha=>by
  simp only[gC] at ha;have hb:ksa.length<=4294967296:=ha.2.2.2.1;have hkids:∀a∈ksa,∀b∈ksb,aZ prog [] 31 [cD a,cD b] (.int .i64 (bU a b)):=fun a hm b _=>sL a b (l6 ha.2.2.2.2 a hm)
  refine fA bI func31 rfl ?_
  conv=>whnf
  refine aE (fun h=>?_) (fun h=>?_)
  ·conv=>whnf
   refine(Ce _).use bI (.cons (.bool _) .nil) (.int _ _) ?_
   conv=>whnf
   refine aA (.int _ _) ⟨?_,rfl,rfl⟩;rw[GO (by simpa using h)];simp
  have h:ka=kb:=by simpa using h
  conv=>whnf
  refine aE (fun h2=>?_) (fun h2=>?_)
  ·conv=>whnf
   refine(Ce _).use bI (.cons (.bool _) .nil) (.int _ _) ?_
   conv=>whnf
   refine aA (.int _ _) ⟨?_,rfl,rfl⟩;rw[Ga h (by simpa using h2)];simp
  have h2:na=nb:=by simpa using h2
  conv=>whnf
  refine aE (fun h3=>?_) (fun h3=>?_)
  ·conv=>whnf
   refine(Ce _).use bI (.cons (.bool _) .nil) (.int _ _) ?_
   conv=>whnf
   refine aA (.int _ _) ⟨?_,rfl,rfl⟩;rw[KW h h2 (by simpa using h3)]
  have h3:sa=sb:=by simpa using h3
  have hcmp:bU (.mk ka na sa ksa) (.mk kb nb sb ksb)=Go.Ax.d7 ksa ksb:=J5 h h2 h3
  conv=>whnf
  refine dW.loopAt bI (fun k:Nat=>k<=ksa.length/\k<=ksb.length/\Go.Ax.d7 ksa ksb=Go.Ax.d7 (ksa.drop k) (ksb.drop k))
   (fun k=>⟨[(2,.ptr 0 0 0),(3,.ptr 1 0 0),(5,.int .i64 k)],[(1,.row 57 4 [cD (.mk kb nb sb ksb)]),(0,.row 57 4 [cD (.mk ka na sa ksa)])],2,83⟩)
   (fun k=>ksa.length-k) 0 [(0,0),(1,1)] ⟨by simp,by simp,by simp⟩
   (aH _ rfl ⟨aI 1 (.cons (eD _) .nil),aI 0 (.cons (eD _) .nil),trivial⟩ ⟨aL,aL,a9 (.int _ _),trivial⟩) ?_
  rintro k ⟨h4,h5,h6⟩
  conv=>whnf
  refine aE (fun h7=>?_) (fun h7=>?_)
  ·have hk:k<ksa.length:=by rw[aB] at h7;simpa using h7
   rw[h7]
   conv=>whnf
   refine aE (fun h8=>?_) (fun h8=>?_)
   ·have hk2:k<ksb.length:=by rw[aB] at h8;simpa using h8
    conv=>whnf
    have e1:=Ad hk;have e2:=Ad hk2;obtain⟨⟨k1,n1,s1,ks1⟩,hv1⟩:∃v,v=ksa[k]:=⟨_,rfl⟩
    obtain⟨⟨k2,n2,s2,ks2⟩,hv2⟩:∃v,v=ksb[k]:=⟨_,rfl⟩
    rw[←hv1] at e1;rw[←hv2] at e2;refine aD e1 ?_
    conv=>whnf
    refine aD e2 ?_
    conv=>whnf
    have hm1:aT.mk k1 n1 s1 ks1∈ksa:=by rw[hv1];exact NL hk
    have hm2:aT.mk k2 n2 s2 ks2∈ksb:=by rw[hv2];exact NL hk2
    have hs:=AC hk hk2;rw[←hv1,←hv2] at hs;refine(hkids _ hm1 _ hm2).use bI (.cons (eD _) (.cons (eD _) .nil)) (.int _ _) ?_
    conv=>whnf
    refine aE (fun h9=>?_) (fun h9=>?_)
    ·have h9:bU (.mk k1 n1 s1 ks1) (.mk k2 n2 s2 ks2)≠0:=by simpa using h9
     conv=>whnf
     refine aA (.int _ _) ⟨?_,rfl,rfl⟩;rw[hcmp,h6,hs,andThen,Mm h9]
    ·have h9:bU (.mk k1 n1 s1 ks1) (.mk k2 n2 s2 ks2)=0:=by simpa using h9
     conv=>whnf
     refine .mk (k+1) [(0,0),(1,1)] ⟨om,om,by rw[h6,hs,andThen,Mr h9]⟩ (aH _ rfl ⟨aI 1 (.cons (eD _) .nil),aI 0 (.cons (eD _) .nil),trivial⟩ ⟨aL,aL,⟨_,rfl,.eq (.int _ _) ?_⟩,trivial⟩) om;rw[fC ⟨om,om⟩];rfl
   ·have hk2:k=ksb.length:=by rw[aB] at h8;simp at h8;omega
    conv=>whnf
    refine aE (fun h9=>?_) (fun h9=>?_)
    ·exfalso;rw[aB,aB] at h9;simp at h9;omega
    ·conv=>whnf
     refine(Ce _).use bI (.cons (.bool _) .nil) (.int _ _) ?_
     conv=>whnf
     refine aA (.int _ _) ⟨?_,rfl,rfl⟩;rw[hcmp,h6,NU (l:=ksb) om,List.drop_eq_getElem_cons hk,Go.Ax.d7,aB,aB,Mm (by simp;omega)]
  ·have hk:k=ksa.length:=by rw[aB] at h7;simp at h7;omega
   have hd:ksa.drop k=[]:=NU om;rw[h7]
   conv=>whnf
   refine aE (fun h9=>?_) (fun h9=>?_)
   ·have h9:ksa.length=ksb.length:=by rw[aB,aB] at h9;simp at h9;omega
    conv=>whnf
    refine aA (.int _ _) ⟨?_,rfl,rfl⟩;rw[hcmp,h6,hd,NU om,Go.Ax.d7]
   ·have h9:ksa.length≠ksb.length:=by rw[aB,aB] at h9;simp at h9;omega
    conv=>whnf
    refine(Ce _).use bI (.cons (.bool _) .nil) (.int _ _) ?_
    conv=>whnf
    refine aA (.int _ _) ⟨?_,rfl,rfl⟩;rw[hcmp,h6,hd,List.drop_eq_getElem_cons (show k<ksb.length by omega),Go.Ax.d7,aB,aB,Mr (by simp;omega)]
 termination_by a=>SizeOf.sizeOf a
 decreasing_by simp;have:=Nm hm;omega
end Go.Proofs.YtpajadlnaokngaaGreatDoor
