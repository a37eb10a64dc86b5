/- A part of the proof. -/
import Derived.Test.YtpajadlnaokngaaGreatDoorAx10
import Derived.Test.YtpajadlnaokngaaGreatDoorProg
import Derived.KernelRfl
set_option linter.unusedVariables false
set_option linter.unusedSimpArgs false
set_option linter.unusedSectionVars false
namespace Go.Proofs.YtpajadlnaokngaaGreatDoor
open Go Go.Ax Go.Proofs Tryz
set_option maxRecDepth 100000
set_option maxHeartbeats 8000000
theorem OG(s:List UInt8)(hs:s.length<=4294967296):a7 prog [] 210 [.str s] (.bool (dD s)):=by
  refine aO bD func210 rfl ?_;refine Rr ?_;refine aE (fun h=>?_) (fun h=>?_)
  · rw[h]
    refine Rr ?_;refine aB nn ⟨?_,rfl,rfl⟩;rw[pX (by simp at h;rw[h];simp)]
  have h1:1<=s.length:=by
    rcases RM s.length with h'|h'
    · rw[h'] at h;simp at h
    · exact h'
  rw[h];refine Rr ?_;refine aE (fun h=>?_) (fun h=>?_)
  · rw[h]
    refine Rr ?_;refine aB nn ⟨?_,rfl,rfl⟩;rw[nV (by simp at h;omega)]
  have h2:s.length<=16:=by simp at h;omega
  rw[h];obtain⟨a,ha⟩:∃a,s[0]? = some a:=⟨s[0],by simp⟩
  refine Rr ?_;refine aD ha ?_;refine Rr ?_;refine aE (fun h=>?_) (fun h=>?_)
  · rw[h]
    refine Rr ?_;refine aB nn ⟨?_,rfl,rfl⟩;rw[g7 ha (by simp[jX] at *;omega)]
  have h3:65<=(a.toNat:Int):=by simpa using h
  rw[h];refine Rr ?_;refine aD ha ?_;refine Rr ?_;refine aE (fun h=>?_) (fun h=>?_)
  · refine Rr ?_
    refine aB nn ⟨?_,rfl,rfl⟩;rw[g7 ha (by simp[jX] at *;omega)]
  have h4:(a.toNat:Int)<=90:=by simpa using h
  refine Rr ?_;refine aZ.at bD (fun i:Nat=>i<=s.length/\∀j c,j<i->s[j]? = some c->sW c.toNat=true)
    (fun i=>⟨[(0,.str s),(3,.int .i64 i)],[],0,59⟩) (fun i=>s.length-i) 0 [] ⟨by simp,by simp⟩
    (bC ⟨aG,aG,trivial⟩) ?_
  rintro i ⟨hi,hall⟩;refine Rr ?_;refine aE (fun h=>?_) (fun h=>?_)
  · have hlt:i<s.length:=by simpa using h
    obtain⟨c,hc⟩:∃c,s[i]? = some c:=⟨s[i],by simp[hlt]⟩
    have hc':s[(i:Int).toNat]? = some c:=by rw[Q4];exact hc
    refine Rr ?_;refine aD hc' ?_;refine Rr ?_;repeat' (refine aE (fun h=>?_) (fun h=>?_)<;>((try rw[h]);refine Rr ?_))
    all_goals first
      | (refine aB nn ⟨?_,rfl,rfl⟩
         rw[tR hc (by rw[R6];simp[sW] at *;omega)])
      | (refine .mk (i+1) [] ⟨om,fun j c2 hj hc2=>?_⟩ (bC ⟨aG,⟨_,rfl,.w64 om ⟨om,om⟩⟩,trivial⟩) om
         rcases Q6 j i with hj'|hj'
         · exact hall j c2 hj' hc2
         · have hji:j=i:=om
           rw[hji,hc] at hc2;cases hc2;simp[sW] at *;omega)
  · refine Rr ?_
    refine aB nn ⟨?_,rfl,rfl⟩;have hk:i=s.length:=by simp at h;omega
    rw[Go.Ax.t7 ha h2 (by simp[jX];omega) fun j c hc=>hall j c (by rw[hk];exact(Qv.1 hc).1) hc]
theorem Ml(x:Nd):a7 prog [] 209 [bL x] (.bool (gQ x)):=by
 obtain⟨kind,name,lo,hi,ws,ls,vals,kids,⟨vk,vn,vs,vks⟩⟩:=x;refine aO bD func209 rfl ?_;rcases(show kind=0∨kind=1∨kind=2∨kind=3∨kind=4∨(kind≠0/\kind≠1/\kind≠2/\kind≠3/\kind≠4) by omega) with rfl|rfl|rfl|rfl|rfl|hk
 all_goals
  refine Rr ?_;repeat' (refine aE (fun h=>?_) (fun h=>?_)<;>((try rw[h]);refine Rr ?_))
 all_goals
  refine aB nn ⟨?_,rfl,rfl⟩;congr 1;rw[RT];simp_all[gQ,A2,aA,aC,a8,Rn]
theorem Jf(x:Nd)(hx:pL x):a7 prog [] 134 [bL x] (.bool (cU x)):=by
 have b1:=hx.lo;have b2:=hx.hi;have b3:=hx.weights;clear hx;obtain⟨kind,name,lo,hi,ws,ls,vals,kids,⟨vk,vn,vs,vks⟩⟩:=x;simp only[i64] at b1 b2 b3;have hnum:cU ⟨kind,name,lo,hi,ws,ls,vals,kids,.mk vk vn vs vks⟩=(decide (lo<=hi) && decide (-4611686018427387904<=lo) && decide (hi<=4611686018427387904) && decide (hi<lo+1099511627776) && ws.all fun w=>decide (1<=w) && decide (w<=1000)):=rfl;generalize cU ⟨kind,name,lo,hi,ws,ls,vals,kids,.mk vk vn vs vks⟩=res at hnum;have hF:∀P:Prop,(res=true->P)->(¬P)->res=false:=fun P h1 h2=>by
  cases hr:res with
  | false=>rfl
  | true=>exact absurd (h1 hr) h2
 refine aO bD func134 rfl ?_;refine Rr ?_;refine aE (fun h=>?_) (fun h=>?_)
 ·rw[h];refine Rr ?_;refine aB nn ⟨?_,rfl,rfl⟩;rw[hF (lo<=hi) (by intro e;rw[hnum] at e;simp at e;omega) (by simp at h;omega)]
 have h1:lo<=hi:=by simpa using h
 rw[h];refine Rr ?_;refine aE (fun h=>?_) (fun h=>?_)
 ·rw[h];refine Rr ?_;refine aB nn ⟨?_,rfl,rfl⟩;rw[hF (-4611686018427387904<=lo) (by intro e;rw[hnum] at e;simp at e;omega) (by simp at h;omega)]
 have h2 : -4611686018427387904<=lo:=by simpa using h
 rw[h];refine Rr ?_;refine aE (fun h=>?_) (fun h=>?_)
 ·rw[h];refine Rr ?_;refine aB nn ⟨?_,rfl,rfl⟩;rw[hF (hi<=4611686018427387904) (by intro e;rw[hnum] at e;simp at e;omega) (by simp at h;omega)]
 have h3:hi<=4611686018427387904:=by simpa using h
 rw[h];have hw:IntKind.i64.wrap (lo+1099511627776)=lo+1099511627776:=w64 rfl ⟨om,om⟩;refine Rr ?_;rw[hw];refine aE (fun h=>?_) (fun h=>?_)
 ·refine Rr ?_;refine aB nn ⟨?_,rfl,rfl⟩;rw[hF (hi<lo+1099511627776) (by intro e;rw[hnum] at e;simp at e;omega) (by simp at h;omega)]
 have h4:hi<lo+1099511627776:=by simpa using h
 refine Rr ?_;refine aZ.at bD (fun k:Nat=>k<=ws.length/\∀j w,j<k->ws[j]? = some w->1<=w/\w<=1000)
  (fun k=>⟨[(1,.ptr 0 0 0),(3,.int .i64 k)],[(0,.row 59 12 [bL ⟨kind,name,lo,hi,ws,ls,vals,kids,.mk vk vn vs vks⟩])],1,48⟩) (fun k=>ws.length-k) 0 [(0,0)] ⟨by simp,by simp⟩
  (aI _ rfl ⟨aJ 0 (.cons (aQ _) .nil),trivial⟩ ⟨aM,aG,trivial⟩) ?_
 rintro k ⟨hk,hall⟩;refine Rr ?_;refine aE (fun h=>?_) (fun h=>?_)
 ·have hlt:k<ws.length:=by rw[aC] at h;simpa using h
  have e1:(aW ws)[(k:Int).toNat]? = some (.int .i64 ws[k]):=by rw[Q4,bK,Qq hlt];rfl
  have hg:ws[k]? = some ws[k]:=Qq hlt;generalize ws[k]=w at e1 hg;have hbad:(1<=w/\w<=1000->False)->res=false:=fun hb=>hF (1<=w/\w<=1000) (by
   intro e;rw[hnum] at e;simp only[Qt,R1,RL] at e;exact e.2 w (RC hg)) hb
  refine Rr ?_;refine aD e1 ?_;refine Rr ?_;refine aE (fun h=>?_) (fun h=>?_)
  ·rw[h];refine Rr ?_;refine aB nn ⟨?_,rfl,rfl⟩;rw[hbad (by simp at h;omega)]
  ·have g1:1<=w:=by simpa using h
   rw[h];refine Rr ?_;refine aD e1 ?_;refine Rr ?_;refine aE (fun h=>?_) (fun h=>?_)
   ·refine Rr ?_;refine aB nn ⟨?_,rfl,rfl⟩;rw[hbad (by simp at h;omega)]
   ·have g2:w<=1000:=by simpa using h
    refine Rr ?_;refine .mk (k+1) [(0,0)] ⟨om,fun j w2 hj hw2=>?_⟩ (aI _ rfl ⟨aJ 0 (.cons (aQ _) .nil),trivial⟩ ⟨aM,⟨_,rfl,.w64 om ⟨om,om⟩⟩,trivial⟩) om;rcases Q6 j k with hj'|hj'
    ·exact hall j w2 hj' hw2
    ·have hjk:j=k:=om;rw[hjk,hg] at hw2;cases hw2;exact⟨g1,g2⟩
 ·have hk':k=ws.length:=by rw[aC] at h;simp at h;omega
  refine Rr ?_;refine aB nn ⟨?_,rfl,rfl⟩;rw[hnum];congr 1;symm;simp only[Qt,R1,RL];refine⟨⟨⟨⟨h1,h2⟩,h3⟩,h4⟩,fun w hw=>?_⟩;obtain⟨j,hj⟩:=RQ hw;exact hall j w (by rw[hk'];exact(Qv.1 hj).1) hj
theorem KW(x:Int):a7 prog [] 226 [.int .i64 x] (.bool false):=by
 refine fG bD func226 rfl ?_
 conv=>whnf
 refine aB (.bool _) ⟨?_,rfl,rfl⟩;simp
theorem Ju(x:List UInt8):a7 prog [] 227 [.str x] (.bool false):=by
 refine fG bD func227 rfl ?_
 conv=>whnf
 refine aB (.bool _) ⟨?_,rfl,rfl⟩;simp
theorem KL(x y:Int):a7 prog [] 159 [.int .i64 x,.int .i64 y] (.int .i64 (pM x y)):=by
 refine fG bD func159 rfl ?_
 conv=>whnf
 refine(KW x).use bD (.cons (.int _ _) .nil) (.bool _) ?_
 conv=>whnf
 refine(KW y).use bD (.cons (.int _ _) .nil) (.bool _) ?_
 conv=>whnf
 refine aE (fun h=>?_) (fun h=>?_)
 ·conv=>whnf
  refine aB (.int _ _) ⟨?_,rfl,rfl⟩;simp at h;simp[pM,h]
 conv=>whnf
 refine aE (fun h'=>?_) (fun h'=>?_)
 ·conv=>whnf
  refine aB (.int _ _) ⟨?_,rfl,rfl⟩;simp at h h';simp only[pM];rw[Qz om,Q3 om]
 ·conv=>whnf
  refine aB (.int _ _) ⟨?_,rfl,rfl⟩;simp at h h';simp only[pM];rw[Qz om,Qz om]
theorem Oa(x y:List UInt8):a7 prog [] 160 [.str x,.str y] (.int .i64 (gM x y)):=by
 refine fG bD func160 rfl ?_
 conv=>whnf
 refine(Ju x).use bD (.cons (.str _) .nil) (.bool _) ?_
 conv=>whnf
 refine(Ju y).use bD (.cons (.str _) .nil) (.bool _) ?_
 conv=>whnf
 refine aE (fun h=>?_) (fun h=>?_)
 ·conv=>whnf
  refine aB (.int _ _) ⟨?_,rfl,rfl⟩;rw[CT.1 h]
 conv=>whnf
 refine aE (fun h'=>?_) (fun h'=>?_)
 ·conv=>whnf
  refine aB (.int _ _) ⟨?_,rfl,rfl⟩;rw[Im h h']
 ·conv=>whnf
  refine aB (.int _ _) ⟨?_,rfl,rfl⟩;rw[JB h h']
theorem ML(l1 l2:List aU)(hb:l1.length<=4294967296)(hc:∀a∈l1,∀b∈l2,a7 prog [] 83 [bV a,bV b] (.int .i64 (bS a b))) :
  a7 prog [] 161 [.il 4 (aL l1),.il 4 (aL l2),.fn (.func 83) [] []] (.int .i64 (dU l1 l2)):=by
 have n1:NN (.il 4 (aL l1)):=.il' (aR l1);have n2:NN (.il 4 (aL l2)):=.il' (aR l2);have n3:NN (.fn (.func 83) [] []):=.fn _ _ _ (by simp) (by simp);refine fG bD func161 rfl ?_
 conv=>whnf
 refine dO.loopAt bD (fun k:Nat=>k<=l1.length/\k<=l2.length/\dU l1 l2=dU (l1.drop k) (l2.drop k))
  (fun k=>⟨[(0,.il 4 (aL l1)),(1,.il 4 (aL l2)),(2,.fn (.func 83) [] []),(11,.il 4 (aL l1)),(12,.int .i64 (aL l1).length),(13,.int .i64 k)],[],0,39⟩)
  (fun k=>l1.length-k) 0 [] ⟨by simp,by simp,by simp⟩
  (bC ⟨a5 n1,a5 n2,a5 n3,a5 n1,a5 (.int _ _),a5 (.int _ _),trivial⟩) ?_
 rintro k ⟨h1,h2,h3⟩
 conv=>whnf
 refine aE (fun h=>?_) (fun h=>?_)
 ·have hk:k<l1.length:=by rw[aA] at h;simpa using h
  obtain⟨⟨ka,na,sa,ksa⟩,hv⟩:∃v,v=l1[k]:=⟨_,rfl⟩
  have hm:aU.mk ka na sa ksa∈l1:=by rw[hv];exact Ra hk
  have e:(aL l1)[(k:Int).toNat]? = some (bV (.mk ka na sa ksa)):=by rw[Q4,kI,Qq hk,hv];rfl
  conv=>whnf
  refine aD e ?_
  conv=>whnf
  refine aE (fun h'=>?_) (fun h'=>?_)
  ·have hk2:k=l2.length:=by rw[aA] at h';simp at h';omega
   conv=>whnf
   refine aB (.int _ _) ⟨?_,rfl,rfl⟩;rw[h3,Rj (l:=l2) om,List.drop_eq_getElem_cons hk,dU]
  ·have hk2:k<l2.length:=by rw[aA] at h';simpa using h'
   obtain⟨⟨kb,nb,sb,ksb⟩,hv2⟩:∃v,v=l2[k]:=⟨_,rfl⟩
   have hm2:aU.mk kb nb sb ksb∈l2:=by rw[hv2];exact Ra hk2
   have e2:(aL l2)[(k:Int).toNat]? = some (bV (.mk kb nb sb ksb)):=by rw[Q4,kI,Qq hk2,hv2];rfl
   conv=>whnf
   refine aD e2 ?_
   conv=>whnf
   refine(hc _ hm _ hm2).use bD (.cons (dS _) (.cons (dS _) .nil)) (.int _ _) ?_
   conv=>whnf
   have hs:=CW hk hk2;rw[←hv,←hv2] at hs;refine aE (fun h4=>?_) (fun h4=>?_)
   ·conv=>whnf
    refine aB (.int _ _) ⟨?_,rfl,rfl⟩;have h4:bS (.mk ka na sa ksa) (.mk kb nb sb ksb)≠0:=by simpa using h4
    rw[h3,hs,andThen,Qz h4]
   ·have h4:bS (.mk ka na sa ksa) (.mk kb nb sb ksb)=0:=by simpa using h4
    conv=>whnf
    refine .mk (k+1) [] ⟨om,om, ?_⟩ (bC ⟨a5 n1,a5 n2,a5 n3,a5 n1,a5 (.int _ _),⟨_,rfl,.eq (.int _ _) ?_⟩,trivial⟩) om
    ·rw[h3,hs,andThen,Q3 h4]
    ·rw[fH ⟨om,om⟩];rfl
 ·have hk:k=l1.length:=by rw[aA] at h;simp at h;omega
  have hd:l1.drop k=[]:=Rj om
  conv=>whnf
  refine aE (fun h'=>?_) (fun h'=>?_)
  ·have hk2:l1.length<l2.length:=by rw[aA,aA] at h';simpa using h'
   conv=>whnf
   refine aB (.int _ _) ⟨?_,rfl,rfl⟩;rw[h3,hd,List.drop_eq_getElem_cons (show k<l2.length by omega),dU]
  ·have hk2:l2.length<=l1.length:=by rw[aA,aA] at h';simpa using h'
   conv=>whnf
   refine aB (.int _ _) ⟨?_,rfl,rfl⟩;rw[h3,hd,Rj om,dU]
theorem pZ:∀(a b:aU),fY a->a7 prog [] 83 [bV a,bV b] (.int .i64 (bS a b))
 | .mk ka na sa ksa,.mk kb nb sb ksb,ha=>by
  simp only[fY] at ha;have hkids:∀a∈ksa,∀b∈ksb,a7 prog [] 83 [bV a,bV b] (.int .i64 (bS a b)):=fun a hm b _=>pZ a b (lH ha.2.2.2.2 a hm)
  refine fG bD func83 rfl ?_
  conv=>whnf
  refine(KL ka kb).use bD (.cons (.int _ _) (.cons (.int _ _) .nil)) (.int _ _) ?_
  conv=>whnf
  refine aE (fun h=>?_) (fun h=>?_)
  ·conv=>whnf
   refine aB (.int _ _) ⟨?_,rfl,rfl⟩;have h:pM ka kb≠0:=by simpa using h
   rw[bS,andThen,Qz h]
  have h:pM ka kb=0:=by simpa using h
  conv=>whnf
  refine(KL na nb).use bD (.cons (.int _ _) (.cons (.int _ _) .nil)) (.int _ _) ?_
  conv=>whnf
  refine aE (fun h2=>?_) (fun h2=>?_)
  ·conv=>whnf
   refine aB (.int _ _) ⟨?_,rfl,rfl⟩;have h2:pM na nb≠0:=by simpa using h2
   rw[bS,andThen,Q3 h,andThen,Qz h2]
  have h2:pM na nb=0:=by simpa using h2
  conv=>whnf
  refine(Oa sa sb).use bD (.cons (.str _) (.cons (.str _) .nil)) (.int _ _) ?_
  conv=>whnf
  refine aE (fun h3=>?_) (fun h3=>?_)
  ·conv=>whnf
   refine aB (.int _ _) ⟨?_,rfl,rfl⟩;have h3:gM sa sb≠0:=by simpa using h3
   rw[bS,andThen,Q3 h,andThen,Q3 h2,andThen,Qz h3]
  have h3:gM sa sb=0:=by simpa using h3
  conv=>whnf
  refine(ML ksa ksb ha.2.2.2.1 hkids).use bD (.cons (.il' (aR _)) (.cons (.il' (aR _)) (.cons (.fn _ _ _ (by simp) (by simp)) .nil))) (.int _ _) ?_
  conv=>whnf
  refine aB (.int _ _) ⟨?_,rfl,rfl⟩;rw[bS,andThen,Q3 h,andThen,Q3 h2,andThen,Q3 h3]
 termination_by a=>SizeOf.sizeOf a
 decreasing_by simp;have:=R4 hm;omega
theorem FM(b:Bool):a7 prog [] 68 [.bool b] (.int .i64 (if b then -1 else 1)):=by
 refine fG bD func68 rfl ?_
 conv=>whnf
 refine aE (fun h=>?_) (fun h=>?_)
 ·conv=>whnf
  exact aB (.int _ _) ⟨by rw[h];rfl,rfl,rfl⟩
 ·conv=>whnf
  exact aB (.int _ _) ⟨by rw[h];rfl,rfl,rfl⟩
theorem pN:∀(a b:aU),fY a->a7 prog [] 31 [bV a,bV b] (.int .i64 (bS a b))
 | .mk ka na sa ksa,.mk kb nb sb ksb,ha=>by
  simp only[fY] at ha;have hb:ksa.length<=4294967296:=ha.2.2.2.1;have hkids:∀a∈ksa,∀b∈ksb,a7 prog [] 31 [bV a,bV b] (.int .i64 (bS a b)):=fun a hm b _=>pN a b (lH ha.2.2.2.2 a hm)
  refine fG bD func31 rfl ?_
  conv=>whnf
  refine aE (fun h=>?_) (fun h=>?_)
  ·conv=>whnf
   refine(FM _).use bD (.cons (.bool _) .nil) (.int _ _) ?_
   conv=>whnf
   refine aB (.int _ _) ⟨?_,rfl,rfl⟩;rw[Iw (by simpa using h)];simp
  have h:ka=kb:=by simpa using h
  conv=>whnf
  refine aE (fun h2=>?_) (fun h2=>?_)
  ·conv=>whnf
   refine(FM _).use bD (.cons (.bool _) .nil) (.int _ _) ?_
   conv=>whnf
   refine aB (.int _ _) ⟨?_,rfl,rfl⟩;rw[J4 h (by simpa using h2)];simp
  have h2:na=nb:=by simpa using h2
  conv=>whnf
  refine aE (fun h3=>?_) (fun h3=>?_)
  ·conv=>whnf
   refine(FM _).use bD (.cons (.bool _) .nil) (.int _ _) ?_
   conv=>whnf
   refine aB (.int _ _) ⟨?_,rfl,rfl⟩;rw[OO h h2 (by simpa using h3)]
  have h3:sa=sb:=by simpa using h3
  have hcmp:bS (.mk ka na sa ksa) (.mk kb nb sb ksb)=dU ksa ksb:=N9 h h2 h3
  conv=>whnf
  refine dO.loopAt bD (fun k:Nat=>k<=ksa.length/\k<=ksb.length/\dU ksa ksb=dU (ksa.drop k) (ksb.drop k))
   (fun k=>⟨[(2,.ptr 0 0 0),(3,.ptr 1 0 0),(5,.int .i64 k)],[(1,.row 57 4 [bV (.mk kb nb sb ksb)]),(0,.row 57 4 [bV (.mk ka na sa ksa)])],2,83⟩)
   (fun k=>ksa.length-k) 0 [(0,0),(1,1)] ⟨by simp,by simp,by simp⟩
   (aI _ rfl ⟨aJ 1 (.cons (dS _) .nil),aJ 0 (.cons (dS _) .nil),trivial⟩ ⟨aM,aM,a5 (.int _ _),trivial⟩) ?_
  rintro k ⟨h4,h5,h6⟩
  conv=>whnf
  refine aE (fun h7=>?_) (fun h7=>?_)
  ·have hk:k<ksa.length:=by rw[aA] at h7;simpa using h7
   rw[h7]
   conv=>whnf
   refine aE (fun h8=>?_) (fun h8=>?_)
   ·have hk2:k<ksb.length:=by rw[aA] at h8;simpa using h8
    conv=>whnf
    have e1:=Dg hk;have e2:=Dg hk2;obtain⟨⟨k1,n1,s1,ks1⟩,hv1⟩:∃v,v=ksa[k]:=⟨_,rfl⟩
    obtain⟨⟨k2,n2,s2,ks2⟩,hv2⟩:∃v,v=ksb[k]:=⟨_,rfl⟩
    rw[←hv1] at e1;rw[←hv2] at e2;refine aD e1 ?_
    conv=>whnf
    refine aD e2 ?_
    conv=>whnf
    have hm1:aU.mk k1 n1 s1 ks1∈ksa:=by rw[hv1];exact Ra hk
    have hm2:aU.mk k2 n2 s2 ks2∈ksb:=by rw[hv2];exact Ra hk2
    have hs:=CW hk hk2;rw[←hv1,←hv2] at hs;refine(hkids _ hm1 _ hm2).use bD (.cons (dS _) (.cons (dS _) .nil)) (.int _ _) ?_
    conv=>whnf
    refine aE (fun h9=>?_) (fun h9=>?_)
    ·have h9:bS (.mk k1 n1 s1 ks1) (.mk k2 n2 s2 ks2)≠0:=by simpa using h9
     conv=>whnf
     refine aB (.int _ _) ⟨?_,rfl,rfl⟩;rw[hcmp,h6,hs,andThen,Qz h9]
    ·have h9:bS (.mk k1 n1 s1 ks1) (.mk k2 n2 s2 ks2)=0:=by simpa using h9
     conv=>whnf
     refine .mk (k+1) [(0,0),(1,1)] ⟨om,om,by rw[h6,hs,andThen,Q3 h9]⟩ (aI _ rfl ⟨aJ 1 (.cons (dS _) .nil),aJ 0 (.cons (dS _) .nil),trivial⟩ ⟨aM,aM,⟨_,rfl,.eq (.int _ _) ?_⟩,trivial⟩) om;rw[fH ⟨om,om⟩];rfl
   ·have hk2:k=ksb.length:=by rw[aA] at h8;simp at h8;omega
    conv=>whnf
    refine aE (fun h9=>?_) (fun h9=>?_)
    ·exfalso;rw[aA,aA] at h9;simp at h9;omega
    ·conv=>whnf
     refine(FM _).use bD (.cons (.bool _) .nil) (.int _ _) ?_
     conv=>whnf
     refine aB (.int _ _) ⟨?_,rfl,rfl⟩;rw[hcmp,h6,Rj (l:=ksb) om,List.drop_eq_getElem_cons hk,dU,aA,aA,Qz (by simp;omega)]
  ·have hk:k=ksa.length:=by rw[aA] at h7;simp at h7;omega
   have hd:ksa.drop k=[]:=Rj om;rw[h7]
   conv=>whnf
   refine aE (fun h9=>?_) (fun h9=>?_)
   ·have h9:ksa.length=ksb.length:=by rw[aA,aA] at h9;simp at h9;omega
    conv=>whnf
    refine aB (.int _ _) ⟨?_,rfl,rfl⟩;rw[hcmp,h6,hd,Rj om,dU]
   ·have h9:ksa.length≠ksb.length:=by rw[aA,aA] at h9;simp at h9;omega
    conv=>whnf
    refine(FM _).use bD (.cons (.bool _) .nil) (.int _ _) ?_
    conv=>whnf
    refine aB (.int _ _) ⟨?_,rfl,rfl⟩;rw[hcmp,h6,hd,List.drop_eq_getElem_cons (show k<ksb.length by omega),dU,aA,aA,Q3 (by simp;omega)]
 termination_by a=>SizeOf.sizeOf a
 decreasing_by simp;have:=R4 hm;omega
end Go.Proofs.YtpajadlnaokngaaGreatDoor
