/- A part of the proof. -/
import Derived.Test.YthggfhnnkclooaaGreatDoorAx13
import Derived.Test.YthggfhnnkclooaaGreatDoorProg
import Derived.KernelRfl
set_option linter.unusedSectionVars false
set_option linter.unusedVariables false
set_option linter.unusedSimpArgs false
set_option maxRecDepth 1000000
set_option maxHeartbeats 16000000
namespace Go.Proofs.YthggfhnnkclooaaGreatDoor
open Go Go.Ax Go.Proofs Tryz
theorem X6:mkF 1 1=⟨1,1⟩:=ef
theorem TW{m:Nat}{a:Fr}(h:Hg m a)(hm:m<q6):FP a:=by
 have h1:=h.pos;have h2:=h.le;have h3:=h.lt;have hd:a.den=a.q:=by unfold Fr.den;rw[Y3 (by have:=h.can.pos;omega)]
 refine⟨?_, ?_⟩
 .unfold eY;exact Y8 om
 .rw[hd];unfold eY;exact Y8 om
theorem Lg{m:Nat}{a:Fr}(h:Hg m a):nF a=a:=by
 have hd:a.den=a.q:=by unfold Fr.den;rw[Y3 (by have:=h.can.pos;omega)]
 unfold nF;rw[hd]
theorem Wc(x:AV)(nx:NN x):aU prog [] 72 [x] (lE ⟨1,1⟩):=by
 have h:=YI 1 1 oq oq H';rw[X6] at h;obtain⟨b,l,c,m,-,-,e⟩:=fX ⟨1,1⟩;rw[e] at h |-;refine aD bI func72 rfl ?_;refine Z ?_;refine h.go ?_ (.cons nn G') (.tup' (.cons (zT _ _ _ _) G'));refine Rt ?_;exact aA (zT _ _ _ _) C' 
theorem Ri{A:List Nd}(h:VT A){n:Nat}(hn:n<A.length)(hk:(aI A n).kind=1\/(aI A n).kind=2){c:Int}(h0:0<=c)(h1:c<fK (aI A n)) :
  aU prog [] 77 [.ip (dM (aI A n)),.int .i64 c] (lE (Ei (aI A n) c)):=by
 have hx:=cS hn;have g:=h.node hx;have hw:=yJ g.node.num;have hwl:=λh2=>h.wlen hx h2
 have hr:=g.opt.rng;have hkl:=g.opt.klen;have hO:=Vw (aI A n) (λ_=>g.node.num);have nx:=bP (aI A n);generalize aI A n=x at *;have hop:fK x=if x.kind=1 then x.hi-x.lo+1 else x.kids.length:=rfl
 have hcf:Ei x c=if x.kind=2 then mkF (x.weights.getD c.toNat 0) (q7 x.weights) else mkF 1 (x.hi-x.lo+1):=rfl
 by_cases h2:x.kind=2
 .rw[Y7 h2] at hcf;rw[Y3 om] at hop;obtain⟨l1,l2⟩:=hwl h2;have hc:c.toNat<x.weights.length:=om;have h3:=CV x.weights 0 c.toNat hw hc;have h4:=(wH x.weights 0 hw).2;have h5:1<=x.weights.getD c.toNat 0/\x.weights.getD c.toNat 0<=1000:=by
   rw[Y0,Yz hc];exact hw _ (Za hc)
  have hsum:q7 x.weights=x.weights.foldl (· + ·) 0:=rfl;have hP:=YI (x.weights.getD c.toNat 0) (q7 x.weights) oq oq om;rw[<-hcf] at hP;have hsk:=λk=>I4 hw om k
  obtain⟨k1,n1,lo1,hi1,w1,b1,v1,ks1,⟨vk1,vn1,vs1,vks1⟩⟩:=x;simp only at h2 l1 hkl;have hwb:w1.length<=2000:=om;subst h2;have ec:(aY w1)[c.toNat]? = some (.int .i64 (w1.getD c.toNat 0)):=by
   rw[bU,Yz hc,Y0,Yz hc];rfl
  generalize w1.getD c.toNat 0=wc at *;generalize Ei ⟨2,n1,lo1,hi1,w1,b1,v1,ks1,.mk vk1 vn1 vs1 vks1⟩ c=F at *;have nF:=wX F;obtain⟨q1,q2,q3,q4,-,-,eF⟩:=fX F;rw[eF] at hP nF |-;have nw:NN (.il 1 (aY w1)):=.il' (aW w1);have lw:=aN w1;refine aD bI func77 rfl ?_;refine Z ?_;refine hO.go ?_ (.cons (.ip' nx) .nil) nn;refine Z ?_;rw[Y8 h0];refine Z ?_;repeat((first|refine aC ec ?_|refine bK ?_);refine Z ?_)
  refine bJ.at bI (λk:Nat=>k<=w1.length)
   (λk=>⟨[(4,.ptr 0 0 0),(5,.int .i64 wc),(6,.int .i64 (q7 (w1.take k))),(28,.il 1 (aY w1)),(29,.int .i64 w1.length),(30,.int .i64 k)],[(0,.row 34 4 [.agg [.bool false,.nsl,.bool false,.nsl]])],1,45⟩) (λk=>w1.length-k) 0 [(0,0)] sq
   (aH _ rfl ⟨aF 0 (.cons (.agg' gc) .nil),trivial⟩ ⟨aM,aG,aG,aP nw,⟨_,rfl,.int (by simp[lw])⟩,aG,trivial⟩) ?_
  intro k hk;refine Z ?_;refine aL (λhb=>?_) (λhb=>?_)
  .rw[hb];have hlt:k<w1.length:=by have:=Zf hb;omega
   have ek:(aY w1)[((k:Nat):Int).toNat]? = some (.int .i64 w1[k]):=ck
   have es:q7 (w1.take (k+1))=q7 (w1.take k)+w1[k]:=by unfold q7;rw[ZE hlt,Z4];rfl
   have hsi:=hsk (k+1);rw[es] at hsi;generalize w1[k]=z at ek es hsi;refine Z ?_;repeat((first|refine aC ek ?_|refine bK ?_);refine Z ?_)
   exact .mk (k+1) [(0,0)] om (aH _ rfl ⟨aF 0 (.cons (.agg' gc) .nil),trivial⟩ ⟨aM,aG,⟨_,rfl,.w64 es.symm (by rw[es];exact hsi)⟩,aP nw,aG,RF,trivial⟩) om
  .rw[hb];have:k=w1.length:=by have:=aAa hb;omega
   subst this;rw[ZK];refine Z ?_;refine hP.go ?_ (.cons nn G') (.tup' (.cons nF G'));refine Rt ?_;exact aA nF C'
 .rw[Y3 h2] at hcf;have h1':x.kind=1:=om;rw[Y7 h1'] at hop;have hP:=YI 1 (x.hi-x.lo+1) oq oq om;rw[<-hcf] at hP;rw[hop] at hO;obtain⟨k1,n1,lo1,hi1,w1,b1,v1,ks1,⟨vk1,vn1,vs1,vks1⟩⟩:=x;simp only at h1';subst h1';generalize Ei ⟨1,n1,lo1,hi1,w1,b1,v1,ks1,.mk vk1 vn1 vs1 vks1⟩ c=F at *;have nF:=wX F;obtain⟨q1,q2,q3,q4,-,-,eF⟩:=fX F;rw[eF] at hP nF |-;refine aD bI func77 rfl ?_;refine Z ?_;refine hO.go ?_ (.cons (.ip' nx) .nil) nn;refine Z ?_;refine hP.go ?_ (.cons nn G') (.tup' (.cons nF G'));refine Rt ?_;exact aA nF C' 
theorem QZ(x:Int):aU prog [] 225 [.int .i64 x] (.bool false):=by
 refine gT bI func225 rfl ?_
 conv=>whnf
 refine aA (.bool _) ⟨?_,rfl,rfl⟩;simp
theorem QB(x:List UInt8):aU prog [] 226 [.str x] (.bool false):=by
 refine gT bI func226 rfl ?_
 conv=>whnf
 refine aA (.bool _) ⟨?_,rfl,rfl⟩;simp
theorem Pz(x y:Int):aU prog [] 173 [.int .i64 x,.int .i64 y] (.int .i64 (rK x y)):=by
 refine gT bI func173 rfl ?_
 conv=>whnf
 refine(QZ x).use bI (.cons (.int _ _) .nil) (.bool _) ?_
 conv=>whnf
 refine(QZ y).use bI (.cons (.int _ _) .nil) (.bool _) ?_
 conv=>whnf
 refine aL (λh=>?_) (λh=>?_)
 .conv=>whnf
  refine aA (.int _ _) ⟨?_,rfl,rfl⟩;simp at h;simp[rK,h]
 conv=>whnf
 refine aL (λh'=>?_) (λh'=>?_)
 .conv=>whnf
  refine aA (.int _ _) ⟨?_,rfl,rfl⟩;simp at h h';simp only[rK];rw[Y3 om,Y7 om]
 .conv=>whnf
  refine aA (.int _ _) ⟨?_,rfl,rfl⟩;simp at h h';simp only[rK];rw[Y3 om,Y3 om]
theorem U0(x y:List UInt8):aU prog [] 174 [.str x,.str y] (.int .i64 (kK x y)):=by
 refine gT bI func174 rfl ?_
 conv=>whnf
 refine(QB x).use bI (.cons (.str _) .nil) (.bool _) ?_
 conv=>whnf
 refine(QB y).use bI (.cons (.str _) .nil) (.bool _) ?_
 conv=>whnf
 refine aL (λh=>?_) (λh=>?_)
 .conv=>whnf
  refine aA (.int _ _) ⟨?_,rfl,rfl⟩;rw[FQ.1 h]
 conv=>whnf
 refine aL (λh'=>?_) (λh'=>?_)
 .conv=>whnf
  refine aA (.int _ _) ⟨?_,rfl,rfl⟩;rw[Ms h h']
 .conv=>whnf
  refine aA (.int _ _) ⟨?_,rfl,rfl⟩;rw[Mw h h']
theorem Q5(l1 l2:List bH)(hb:l1.length<=4294967296)(hc:∀a∈l1,∀b∈l2,aU prog [] 104 [cC a,cC b] (.int .i64 (c8 a b))) :
  aU prog [] 175 [.il 4 (aQ l1),.il 4 (aQ l2),.fn (.func 104) [] []] (.int .i64 (g7 l1 l2)):=by
 have n1:NN (.il 4 (aQ l1)):=.il' (aX l1);have n2:NN (.il 4 (aQ l2)):=.il' (aX l2);have n3:NN (.fn (.func 104) [] []):=.fn _ _ _ sq sq;refine gT bI func175 rfl ?_
 conv=>whnf
 refine eQ.loopAt bI (λk:Nat=>k<=l1.length/\k<=l2.length/\g7 l1 l2=g7 (l1.drop k) (l2.drop k))
  (λk=>⟨[(0,.il 4 (aQ l1)),(1,.il 4 (aQ l2)),(2,.fn (.func 104) [] []),(11,.il 4 (aQ l1)),(12,.int .i64 (aQ l1).length),(13,.int .i64 k)],[],0,39⟩)
  (λk=>l1.length-k) 0 [] ⟨sq,sq,sq⟩
  (b9 ⟨aP n1,aP n2,aP n3,aP n1,aP (.int _ _),aP (.int _ _),trivial⟩) ?_
 rintro k ⟨h1,h2,h3⟩
 conv=>whnf
 refine aL (λh=>?_) (λh=>?_)
 .have hk:k<l1.length:=by rw[aB] at h;simpa using h
  obtain⟨⟨ka,na,sa,ksa⟩,hv⟩:∃v,v=l1[k]:=cm
  have hm:bH.mk ka na sa ksa∈l1:=by rw[hv];exact Za hk
  have e:(aQ l1)[(k:Int).toNat]? = some (cC (.mk ka na sa ksa)):=by rw[Y1,jH,Yz hk,hv];rfl
  conv=>whnf
  refine aC e ?_
  conv=>whnf
  refine aL (λh'=>?_) (λh'=>?_)
  .have hk2:k=l2.length:=by rw[aB] at h';simp at h';omega
   conv=>whnf
   refine aA (.int _ _) ⟨?_,rfl,rfl⟩;rw[h3,aAe (l:=l2) om,List.drop_eq_getElem_cons hk,g7]
  .have hk2:k<l2.length:=by rw[aB] at h';simpa using h'
   obtain⟨⟨kb,nb,sb,ksb⟩,hv2⟩:∃v,v=l2[k]:=cm
   have hm2:bH.mk kb nb sb ksb∈l2:=by rw[hv2];exact Za hk2
   have e2:(aQ l2)[(k:Int).toNat]? = some (cC (.mk kb nb sb ksb)):=by rw[Y1,jH,Yz hk2,hv2];rfl
   conv=>whnf
   refine aC e2 ?_
   conv=>whnf
   refine(hc _ hm _ hm2).use bI (.cons (bZ _) ct) (.int _ _) ?_
   conv=>whnf
   have hs:=Et hk hk2;rw[<-hv,<-hv2] at hs;refine aL (λh4=>?_) (λh4=>?_)
   .conv=>whnf
    refine aA (.int _ _) ⟨?_,rfl,rfl⟩;have h4:c8 (.mk ka na sa ksa) (.mk kb nb sb ksb)≠0:=su h4
    rw[h3,hs,andThen,Y3 h4]
   .have h4:c8 (.mk ka na sa ksa) (.mk kb nb sb ksb)=0:=su h4
    conv=>whnf
    refine .mk (k+1) [] ⟨om,om, ?_⟩ (b9 ⟨aP n1,aP n2,aP n3,aP n1,aP (.int _ _),⟨_,rfl,.eq (.int _ _) ?_⟩,trivial⟩) om
    .rw[h3,hs,andThen,Y7 h4]
    .rw[bF oq];rfl
 .have hk:k=l1.length:=by rw[aB] at h;simp at h;omega
  have hd:l1.drop k=[]:=aAe om
  conv=>whnf
  refine aL (λh'=>?_) (λh'=>?_)
  .have hk2:l1.length<l2.length:=by rw[aB,aB] at h';simpa using h'
   conv=>whnf
   refine aA (.int _ _) ⟨?_,rfl,rfl⟩;rw[h3,hd,List.drop_eq_getElem_cons (show k<l2.length by omega),g7]
  .have hk2:l2.length<=l1.length:=by rw[aB,aB] at h';simpa using h'
   conv=>whnf
   refine aA (.int _ _) ⟨?_,rfl,rfl⟩;rw[h3,hd,aAe om,g7]
theorem pO:∀(a b:bH),jG a->aU prog [] 104 [cC a,cC b] (.int .i64 (c8 a b))
 | .mk ka na sa ksa,.mk kb nb sb ksb,ha=>by
  simp only[jG] at ha;have hkids:∀a∈ksa,∀b∈ksb,aU prog [] 104 [cC a,cC b] (.int .i64 (c8 a b)):=λa hm b _=>pO a b (pG ha.2.2.2.2 a hm)
  refine gT bI func104 rfl ?_
  conv=>whnf
  refine(Pz ka kb).use bI (.cons (.int _ _) (.cons (.int _ _) .nil)) (.int _ _) ?_
  conv=>whnf
  refine aL (λh=>?_) (λh=>?_)
  .conv=>whnf
   refine aA (.int _ _) ⟨?_,rfl,rfl⟩;have h:rK ka kb≠0:=su h
   rw[c8,andThen,Y3 h]
  have h:rK ka kb=0:=su h
  conv=>whnf
  refine(Pz na nb).use bI (.cons (.int _ _) (.cons (.int _ _) .nil)) (.int _ _) ?_
  conv=>whnf
  refine aL (λh2=>?_) (λh2=>?_)
  .conv=>whnf
   refine aA (.int _ _) ⟨?_,rfl,rfl⟩;have h2:rK na nb≠0:=su h2
   rw[c8,andThen,Y7 h,andThen,Y3 h2]
  have h2:rK na nb=0:=su h2
  conv=>whnf
  refine(U0 sa sb).use bI (.cons (.str _) (.cons (.str _) .nil)) (.int _ _) ?_
  conv=>whnf
  refine aL (λh3=>?_) (λh3=>?_)
  .conv=>whnf
   refine aA (.int _ _) ⟨?_,rfl,rfl⟩;have h3:kK sa sb≠0:=su h3
   rw[c8,andThen,Y7 h,andThen,Y7 h2,andThen,Y3 h3]
  have h3:kK sa sb=0:=su h3
  conv=>whnf
  refine(Q5 ksa ksb ha.2.2.2.1 hkids).use bI (.cons (.il' (aX _)) (.cons (.il' (aX _)) (.cons (.fn _ _ _ sq sq) .nil))) (.int _ _) ?_
  conv=>whnf
  refine aA (.int _ _) ⟨?_,rfl,rfl⟩;rw[c8,andThen,Y7 h,andThen,Y7 h2,andThen,Y7 h3]
 termination_by a=>SizeOf.sizeOf a
 decreasing_by simp;have:=aAI hm;omega
theorem H2(b:Bool):aU prog [] 111 [.bool b] (.int .i64 (if b then -1 else 1)):=by
 refine gT bI func111 rfl ?_
 conv=>whnf
 refine aL (λh=>?_) (λh=>?_)
 .conv=>whnf
  exact aA (.int _ _) ⟨by rw[h];rfl,rfl,rfl⟩
 .conv=>whnf
  exact aA (.int _ _) ⟨by rw[h];rfl,rfl,rfl⟩
theorem AA:∀(a b:bH),jG a->aU prog [] 49 [cC a,cC b] (.int .i64 (c8 a b))
 | .mk ka na sa ksa,.mk kb nb sb ksb,ha=>by
  simp only[jG] at ha;have hb:ksa.length<=4294967296:=ha.2.2.2.1;have hkids:∀a∈ksa,∀b∈ksb,aU prog [] 49 [cC a,cC b] (.int .i64 (c8 a b)):=λa hm b _=>AA a b (pG ha.2.2.2.2 a hm)
  refine gT bI func49 rfl ?_
  conv=>whnf
  refine aL (λh=>?_) (λh=>?_)
  .conv=>whnf
   refine(H2 _).use bI ic (.int _ _) ?_
   conv=>whnf
   refine aA (.int _ _) ⟨?_,rfl,rfl⟩;rw[NC (su h)];simp
  have h:ka=kb:=su h
  conv=>whnf
  refine aL (λh2=>?_) (λh2=>?_)
  .conv=>whnf
   refine(H2 _).use bI ic (.int _ _) ?_
   conv=>whnf
   refine aA (.int _ _) ⟨?_,rfl,rfl⟩;rw[Og h (su h2)];simp
  have h2:na=nb:=su h2
  conv=>whnf
  refine aL (λh3=>?_) (λh3=>?_)
  .conv=>whnf
   refine(H2 _).use bI ic (.int _ _) ?_
   conv=>whnf
   refine aA (.int _ _) ⟨?_,rfl,rfl⟩;rw[VJ h h2 (su h3)]
  have h3:sa=sb:=su h3
  have hcmp:c8 (.mk ka na sa ksa) (.mk kb nb sb ksb)=g7 ksa ksb:=Uj h h2 h3
  conv=>whnf
  refine eQ.loopAt bI (λk:Nat=>k<=ksa.length/\k<=ksb.length/\g7 ksa ksb=g7 (ksa.drop k) (ksb.drop k))
   (λk=>⟨[(2,.ptr 0 0 0),(3,.ptr 1 0 0),(5,.int .i64 k)],[(1,.row 50 4 [cC (.mk kb nb sb ksb)]),(0,.row 50 4 [cC (.mk ka na sa ksa)])],2,83⟩)
   (λk=>ksa.length-k) 0 [(0,0),(1,1)] ⟨sq,sq,sq⟩
   (aH _ rfl ⟨aF 1 ct,aF 0 ct,trivial⟩ ⟨aM,aM,aP (.int _ _),trivial⟩) ?_
  rintro k ⟨h4,h5,h6⟩
  conv=>whnf
  refine aL (λh7=>?_) (λh7=>?_)
  .have hk:k<ksa.length:=by rw[aB] at h7;simpa using h7
   rw[h7]
   conv=>whnf
   refine aL (λh8=>?_) (λh8=>?_)
   .have hk2:k<ksb.length:=by rw[aB] at h8;simpa using h8
    conv=>whnf
    have e1:=BE hk;have e2:=BE hk2;obtain⟨⟨k1,n1,s1,ks1⟩,hv1⟩:∃v,v=ksa[k]:=cm
    obtain⟨⟨k2,n2,s2,ks2⟩,hv2⟩:∃v,v=ksb[k]:=cm
    rw[<-hv1] at e1;rw[<-hv2] at e2;refine aC e1 ?_
    conv=>whnf
    refine aC e2 ?_
    conv=>whnf
    have hm1:bH.mk k1 n1 s1 ks1∈ksa:=by rw[hv1];exact Za hk
    have hm2:bH.mk k2 n2 s2 ks2∈ksb:=by rw[hv2];exact Za hk2
    have hs:=Et hk hk2;rw[<-hv1,<-hv2] at hs;refine(hkids _ hm1 _ hm2).use bI (.cons (bZ _) ct) (.int _ _) ?_
    conv=>whnf
    refine aL (λh9=>?_) (λh9=>?_)
    .have h9:c8 (.mk k1 n1 s1 ks1) (.mk k2 n2 s2 ks2)≠0:=su h9
     conv=>whnf
     refine aA (.int _ _) ⟨?_,rfl,rfl⟩;rw[hcmp,h6,hs,andThen,Y3 h9]
    .have h9:c8 (.mk k1 n1 s1 ks1) (.mk k2 n2 s2 ks2)=0:=su h9
     conv=>whnf
     refine .mk (k+1) [(0,0),(1,1)] ⟨om,om,by rw[h6,hs,andThen,Y7 h9]⟩ (aH _ rfl ⟨aF 1 ct,aF 0 ct,trivial⟩ ⟨aM,aM,⟨_,rfl,.eq (.int _ _) ?_⟩,trivial⟩) om;rw[bF oq];rfl
   .have hk2:k=ksb.length:=by rw[aB] at h8;simp at h8;omega
    conv=>whnf
    refine aL (λh9=>?_) (λh9=>?_)
    .exfalso;rw[aB,aB] at h9;simp at h9;omega
    .conv=>whnf
     refine(H2 _).use bI ic (.int _ _) ?_
     conv=>whnf
     refine aA (.int _ _) ⟨?_,rfl,rfl⟩;rw[hcmp,h6,aAe (l:=ksb) om,List.drop_eq_getElem_cons hk,g7,aB,aB,Y3 B']
  .have hk:k=ksa.length:=by rw[aB] at h7;simp at h7;omega
   have hd:ksa.drop k=[]:=aAe om;rw[h7]
   conv=>whnf
   refine aL (λh9=>?_) (λh9=>?_)
   .have h9:ksa.length=ksb.length:=by rw[aB,aB] at h9;simp at h9;omega
    conv=>whnf
    refine aA (.int _ _) ⟨?_,rfl,rfl⟩;rw[hcmp,h6,hd,aAe om,g7]
   .have h9:ksa.length≠ksb.length:=by rw[aB,aB] at h9;simp at h9;omega
    conv=>whnf
    refine(H2 _).use bI ic (.int _ _) ?_
    conv=>whnf
    refine aA (.int _ _) ⟨?_,rfl,rfl⟩;rw[hcmp,h6,hd,List.drop_eq_getElem_cons (show k<ksb.length by omega),g7,aB,aB,Y7 B']
 termination_by a=>SizeOf.sizeOf a
 decreasing_by simp;have:=aAI hm;omega
theorem Fe{l:List bH}{k:Nat}{v a:bH}(h:l[k]? = some a):HT l k v=(c8 a v == 0):=by simp[HT,h]
theorem FF{l:List bH}{k:Nat}{v:bH}(h:l.length<=k):HT l k v=false:=by simp[HT,ZJ h]
theorem Ta(l:List bH)(v:bH)(hl:l.length<=4294967296)(hok:∀a∈l,jG a) :
  aU prog [] 166 [.il 4 (aQ l),cC v] (.tup [.int .i64 (eZ l v).1,.bool (eZ l v).2]):=by
 obtain⟨vk,vn,vs,vks⟩:=v;have nl:NN (.il 4 (aQ l)):=.il' (aX l);have nt:∀(k:Int) (b:Bool),NN (.tup [.int .i64 k,.bool b]):=λk b=>.tup' (.cons (.int _ _) ic)
 refine gT bI func166 rfl ?_
 conv=>whnf
 refine eQ.loopAt bI (λk:Nat=>k<=l.length/\∀p a,p<k->l[p]? = some a->c8 a (.mk vk vn vs vks)<0)
  (λk=>⟨[(0,.il 4 (aQ l)),(3,.ptr 0 0 0),(6,.int .i64 k)],[(0,.row 50 4 [cC (.mk vk vn vs vks)])],1,27⟩)
  (λk=>l.length-k) 0 [(0,0)] ⟨sq,sq⟩
  (aH _ rfl ⟨aF 0 ct,trivial⟩ ⟨aP nl,aM,aP (.int _ _),trivial⟩) ?_
 rintro k ⟨h1,h2⟩
 conv=>whnf
 refine aL (λh=>?_) (λh=>?_)
 .have hk:k<l.length:=by rw[aB] at h;simpa using h
  have e:=BE hk;obtain⟨⟨ak,an,az,aks⟩,hv⟩:∃a,a=l[k]:=cm
  rw[<-hv] at e;have hm:bH.mk ak an az aks∈l:=by rw[hv];exact Za hk
  have hg:l[k]? = some (bH.mk ak an az aks):=by rw[hv];exact Yz hk
  conv=>whnf
  refine aC e ?_
  conv=>whnf
  refine(AA (.mk ak an az aks) (.mk vk vn vs vks) (hok _ hm)).use bI (.cons (bZ _) ct) (.int _ _) ?_
  conv=>whnf
  refine aL (λh3=>?_) (λh3=>?_)
  .have h3:0<=c8 (.mk ak an az aks) (.mk vk vn vs vks):=su h3
   conv=>whnf
   refine aA (nt _ _) ⟨?_,rfl,rfl⟩;rw[uL h1 h2 (λa ha=>by rw[hg] at ha;cases ha;exact h3),Fe hg]
  .have h3:c8 (.mk ak an az aks) (.mk vk vn vs vks)<0:=su h3
   conv=>whnf
   refine .mk (k+1) [(0,0)] ⟨om,λp a hp ha=>?_⟩ (aH _ rfl ⟨aF 0 ct,trivial⟩ ⟨aP nl,aM,⟨_,rfl,.eq (.int _ _) ?_⟩,trivial⟩) om
   .rcases ZL p k with hp'|hp'
    .exact h2 p a hp' ha
    .have:p=k:=om;subst this;rw[hg] at ha;cases ha;exact h3
   .rw[bF oq];rfl
 .have hk:k=l.length:=by rw[aB] at h;simp at h;omega
  conv=>whnf
  refine aA (nt _ _) ⟨?_,rfl,rfl⟩;rw[uL h1 h2 (λa ha=>by rw[ZJ om] at ha;cases ha),FF om,aB,hk]
theorem R3(l:List bH)(v:bH)(hl:l.length<=4294967296)(hok:∀a∈l,jG a)(hs:mS l) :
  aU prog [] 239 [.il 4 (aQ l),cC v,.fn (.func 104) [] []] (.tup [.int .i64 (eZ l v).1,.bool (eZ l v).2]):=by
 obtain⟨vk,vn,vs,vks⟩:=v;have nl:NN (.il 4 (aQ l)):=.il' (aX l);have nf:NN (.fn (.func 104) [] []):=.fn _ _ _ sq sq;have nt:∀(k:Int) (b:Bool),NN (.tup [.int .i64 k,.bool b]):=λk b=>.tup' (.cons (.int _ _) ic)
 refine gT bI func239 rfl ?_
 conv=>whnf
 refine eQ.loopAt bI (λx:Nat × Nat=>x.1<=x.2/\x.2<=l.length/\(∀p a,p<x.1->l[p]? = some a->c8 a (.mk vk vn vs vks)<0)/\∀a,l[x.2]? = some a->0<=c8 a (.mk vk vn vs vks))
  (λx=>⟨[(0,.il 4 (aQ l)),(2,.fn (.func 104) [] []),(4,.ptr 0 0 0),(8,.int .i64 (aQ l).length),(9,.int .i64 x.1),(10,.int .i64 x.2)],[(0,.row 50 4 [cC (.mk vk vn vs vks)])],1,49⟩)
  (λx=>x.2-x.1) (0,l.length) [(0,0)] ⟨sq,sq,sq,λa ha=>by simp at ha⟩
  (aH _ rfl ⟨aF 0 ct,trivial⟩ ⟨aP nl,aP nf,aM,aP (.int _ _),aP (.int _ _),⟨_,rfl,.eq (.int _ _) (by rw[aB])⟩,trivial⟩) ?_
 rintro⟨i,j⟩ ⟨h1,h2,h3,h4⟩
 dsimp only at h1 h2 h3 h4 |-
 conv=>whnf
 refine aL (λh=>?_) (λh=>?_)
 .have hij:i<j:=su h
  have hw1:IntKind.i64.wrap ((i:Int)+j)=((i+j:Nat):Int):=bF oq;have hw2:IntKind.u64.wrap ((i+j:Nat):Int)=((i+j:Nat):Int):=IntWalk.u64_in _ oq;have hw3:((i+j:Nat):Int).fdiv (2 ^ min (Int.toNat 1) IntKind.u64.bits)=(((i+j)/2:Nat):Int):=by
   rw[show (2:Int) ^ min (Int.toNat 1) IntKind.u64.bits=2 from rfl,aBX _ om];omega
  have hw4:IntKind.i64.wrap (((i+j)/2:Nat):Int)=(((i+j)/2:Nat):Int):=bF oq;generalize hm:(i+j)/2=m at *;have hm1:i<=m:=om;have hm2:m<j:=om;have hk:m<l.length:=om;have e:=BE hk;obtain⟨⟨ak,an,az,aks⟩,hv⟩:∃a,a=l[m]:=cm
  rw[<-hv] at e;have hmem:bH.mk ak an az aks∈l:=by rw[hv];exact Za hk
  have hg:l[m]? = some (bH.mk ak an az aks):=by rw[hv];exact Yz hk
  conv=>whnf
  rw[hw1,hw2,hw3,hw4]
  conv=>whnf
  refine aC e ?_
  conv=>whnf
  refine(pO (.mk ak an az aks) (.mk vk vn vs vks) (hok _ hmem)).use bI (.cons (bZ _) ct) (.int _ _) ?_
  conv=>whnf
  refine aL (λh5=>?_) (λh5=>?_)
  .have h5:c8 (.mk ak an az aks) (.mk vk vn vs vks)<0:=su h5
   conv=>whnf
   refine .mk (m+1,j) [(0,0)] ⟨by simp only;omega,h2,λp a hp ha=>?_,h4⟩ (aH _ rfl ⟨aF 0 ct,trivial⟩ ⟨aP nl,aP nf,aM,aP (.int _ _),⟨_,rfl,.eq (.int _ _) ?_⟩,aP (.int _ _),trivial⟩) J'
   .simp only at hp;rcases ZL p m with hp'|hp'
    .exact XT (by have:=hs.get hp' ha hg;omega) h5
    .have:p=m:=om;subst this;rw[hg] at ha;cases ha;exact h5
   .rw[bF oq];rfl
  .have h5:0<=c8 (.mk ak an az aks) (.mk vk vn vs vks):=su h5
   conv=>whnf
   exact .mk (i,m) [(0,0)] ⟨hm1,by simp only;omega,h3,λa ha=>by rw[hg] at ha;cases ha;exact h5⟩ (aH _ rfl ⟨aF 0 ct,trivial⟩ ⟨aP nl,aP nf,aM,aP (.int _ _),aP (.int _ _),aP (.int _ _),trivial⟩) J'
 .have hij:i=j:=by simp at h;omega
  subst hij;have hf:=uL h2 h3 h4
  conv=>whnf
  refine aL (λh5=>?_) (λh5=>?_)
  .have hk:i<l.length:=by rw[aB] at h5;simpa using h5
   have e:=BE hk;obtain⟨⟨ak,an,az,aks⟩,hv⟩:∃a,a=l[i]:=cm
   rw[<-hv] at e;have hmem:bH.mk ak an az aks∈l:=by rw[hv];exact Za hk
   have hg:l[i]? = some (bH.mk ak an az aks):=by rw[hv];exact Yz hk
   rw[h5]
   conv=>whnf
   refine aC e ?_
   conv=>whnf
   refine(pO (.mk ak an az aks) (.mk vk vn vs vks) (hok _ hmem)).use bI (.cons (bZ _) ct) (.int _ _) ?_
   conv=>whnf
   refine aA (nt _ _) ⟨?_,rfl,rfl⟩;rw[hf,Fe hg]
  .have hk:l.length<=i:=by rw[aB] at h5;simpa using h5
   rw[h5]
   conv=>whnf
   refine aA (nt _ _) ⟨?_,rfl,rfl⟩;rw[hf,FF hk]
theorem Wh(l:List bH)(v:bH)(hl:l.length<=4294967296)(hok:∀a∈l,jG a)(hs:mS l) :
  aU prog [] 196 [.il 4 (aQ l),cC v] (.tup [.int .i64 (eZ l v).1,.bool (eZ l v).2]):=by
 obtain⟨vk,vn,vs,vks⟩:=v;have nl:NN (.il 4 (aQ l)):=.il' (aX l);have nf:NN (.fn (.func 104) [] []):=.fn _ _ _ sq sq;have nt:∀(k:Int) (b:Bool),NN (.tup [.int .i64 k,.bool b]):=λk b=>.tup' (.cons (.int _ _) ic)
 refine gT bI func196 rfl ?_
 conv=>whnf
 refine(R3 l (.mk vk vn vs vks) hl hok hs).use bI (.cons nl (.cons (bZ _) (.cons nf .nil))) (nt _ _) ?_
 conv=>whnf
 exact aA (nt _ _) C' 
theorem nQ{l:List Int}{k:Nat}(h:k<l.length):(aY l)[(k:Int).toNat]? = some (.int .i64 l[k]):=by
 rw[Y1,bU,Yz h];rfl
theorem A8{mem:aR}{id len:Nat}{t:TypeId}{sz:Nat}{xs ys:List AV}(h1:lk mem id=some (.row t sz xs))(e:len=xs.length)(h:xs=ys)(h5:jR ys):Cv mem [] (.sl id 0 len) (.il sz ys):=by
 subst h e;exact .fz' (id:=id) h1 rfl om (by rw[ZT];exact ZD om) h5
def Xl(A:List Nd):AV:=.agg [.ip (.agg [.il 12 (bG A)]),.il 1 (aY (bD A)),.il 4 (aQ (dC A))]
def wk(A:List Nd):AV:=.ip (Xl A)
theorem Vb(A:List Nd):NN (Xl A):=.agg' (.cons (.ip' (.agg' (.cons (.il' (bB A)) .nil))) (.cons (.il' (aW _)) gg))
theorem iP(A:List Nd):NN (wk A):=.ip' (Vb A)
theorem K8{A:List Nd}{i:Nat}(hi:i<A.length):(aY (bD A))[((i:Nat):Int).toNat]? = some (.int .i64 (eP (bD A) i)):=by
 have h:i<(bD A).length:=by rw[gI];exact hi
 rw[Y1,bU,Yz h];unfold eP;rw[Y1,Y0,Yz h];rfl
theorem LA{A:List Nd}{i:Nat}(hi:i<A.length):(aQ (dC A))[((i:Nat):Int).toNat]? = some (cC (EU (dC A) i)):=by
 have h:i<(dC A).length:=by rw[jV];exact hi
 rw[Y1,jH,Yz h];unfold EU;rw[Y0,Yz h];rfl
theorem pJ{A:List Nd}{i:Nat}(hi:i<A.length):(bG A)[((i:Nat):Int).toNat]? = some (dM (aI A i)):=by
 rw[Y1,o8,cS hi];rfl
theorem JC{A:List Nd}{i:Nat}(hi:i<A.length):aU prog [] 135 [wk A,.int .i64 i] (.int .i64 (eP (bD A) i)):=by
 have e:=K8 hi;refine aD bI func135 rfl ?_;refine Z ?_;refine aC e ?_;refine Z ?_;exact aA nn C' 
theorem Va{A:List Nd}{i:Nat}(hi:i<A.length):aU prog [] 136 [wk A,.int .i64 i] (cC (EU (dC A) i)):=by
 have e:=LA hi;generalize EU (dC A) i=v at *;obtain⟨v1,v2,v3,v4⟩:=v;refine aD bI func136 rfl ?_;refine Z ?_;refine aC e ?_;refine Z ?_;exact aA nn C' 
theorem Wk{A:List Nd}(hp:0<A.length)(hl:A.length<=100000):aU prog [] 26 [wk A] (.int .i64 ((A.length-1:Nat):Int)):=by
 have hw:IntKind.i64.wrap (((bG A).length:Int)-1)=((A.length-1:Nat):Int):=by rw[cH,bF oq];omega
 refine aD bI func26 rfl ?_;refine Z ?_;exact cN (.int hw) C' 
theorem IR(x:Nd)(h:x.kind=1->Go.Ax.d6 x=true):aU prog [] 71 [.ip (dM x)] (.int .i64 (fK x)):=by
 have hr:x.kind=1->x.lo<=x.hi/\x.hi<x.lo+1099511627776:=λe=>⟨(cE (h e)).1,(cE (h e)).2.2.2⟩
 have ho:fK x=if x.kind=1 then x.hi-x.lo+1 else x.kids.length:=rfl
 clear h;obtain⟨kind,name,lo,hi,ws,ls,vals,kids,⟨vk,vn,vs,vks⟩⟩:=x;simp only at hr ho;generalize fK ⟨kind,name,lo,hi,ws,ls,vals,kids,.mk vk vn vs vks⟩=o at *;refine aD bI func71 rfl ?_;refine Z ?_;refine aL (λh=>?_) (λh=>?_)
 .have h1:kind=1:=su h
  obtain⟨r1,r2⟩:=hr h1;rw[Y7 h1] at ho;have hw:IntKind.i64.wrap (hi-lo)=hi-lo:=bF oq;have hw2:IntKind.i64.wrap (hi-lo+1)=o:=by rw[bF oq,ho]
  refine Rt ?_;rw[hw,hw2];exact aA nn ⟨rfl,rfl,rfl⟩
 .have h1:¬kind=1:=su h
  rw[Y3 h1] at ho;refine Z ?_;exact cN (.int (by rw[ho,aN])) ⟨rfl,rfl,rfl⟩
theorem T1(x:Nd)(v:bH)(hl:x.values.length<=4294967296)(hok:∀a∈x.values,jG a)(hs:mS x.values):aU prog [] 127 [.ip (dM x),cC v] (.int .i64 (((eZ x.values v).1+1:Nat):Int)):=by
 have hf:=Wh x.values v hl hok hs;have hle:=A6 x.values v;obtain⟨kind,name,lo,hi,ws,ls,vals,kids,⟨vk,vn,vs,vks⟩⟩:=x;simp only at hf hle hl |-;generalize (eZ vals v).1=k at *;generalize (eZ vals v).2=b at *;obtain⟨v1,v2,v3,v4⟩:=v;refine aD bI func127 rfl ?_;refine Z ?_;refine hf.go ?_;refine Rt ?_;exact cN (.w64 om oq) ⟨rfl,rfl,rfl⟩
theorem P7:∀v:bH,bS v<=1099511627776->aU prog [] 121 [cC v] (.int .i64 (bS v))
 | .mk vk vn vs ks,hs=>by
  have hs':c7 ks+1<=1099511627776:=by simp only[bS] at hs;omega
  have ih:∀a∈ks,aU prog [] 121 [cC a] (.int .i64 (bS a)):=λa hm=>P7 a (by have:=Ep hm;omega)
  have hl:=BV ks;refine aD bI func121 rfl ?_;refine Z ?_;refine bJ.at bI (λk:Nat=>k<=ks.length)
   (λk=>⟨[(1,.ptr 0 0 0),(3,.int .i64 (1+c7 (ks.take k):Nat)),(4,.int .i64 k)],[(0,.row 50 4 [cC (.mk vk vn vs ks)])],1,21⟩)
   (λk=>ks.length-k) 0 [(0,0)] sq
   (aH _ rfl dc ⟨aM,aG,aG,trivial⟩) ?_
  intro k hk;refine Z ?_;refine aL (λh=>?_) (λh=>?_)
  .have hlt:=Ma h;obtain⟨a,b,c,d,hm,hg,he,e1⟩:=dU hlt;have hsz:=zL hlt;have hle:=qY ks (k+1);rw[he] at hsz;refine Z ?_;refine aC e1 ?_;refine Z ?_;refine(ih _ hm).go ?_;refine Z ?_;exact .mk (k+1) [(0,0)] om (aH _ rfl dc ⟨aM,RF,RF,trivial⟩) om
  .have hk':k=ks.length:=by have:=MC h;omega
   refine Z ?_;refine aA nn ⟨?_,rfl,rfl⟩;rw[hk',ZK,bS]
 termination_by v=>SizeOf.sizeOf v
 decreasing_by simp;have:=aAI hm;omega
theorem SW(c:Int):aU prog [] 257 [.int .u8 c] (.bool (xG c)):=by
 refine aD bI func257 rfl ?_;refine Z ?_;repeat' (refine aL (λh=>?_) (λh=>?_)<;>((try rw[h]);refine Z ?_))
 all_goals
  refine aA nn ⟨?_,rfl,rfl⟩;congr 1;rw[Zv];simp[xG] at *;try omega
theorem QT(s:List UInt8)(hs:s.length<=4294967296):aU prog [] 234 [.str s] (.bool (gA s)):=by
  refine aD bI func234 rfl ?_;refine Z ?_;refine aL (λh=>?_) (λh=>?_)
  · rw[h]
    refine Z ?_;refine aA nn ⟨?_,rfl,rfl⟩;rw[vK bk]
  have h1:1<=s.length:=bk
  rw[h];refine Z ?_;refine aL (λh=>?_) (λh=>?_)
  · rw[h]
    refine Z ?_;refine aA nn ⟨?_,rfl,rfl⟩;rw[tN bk]
  have h2:s.length<=16:=bk
  rw[h];obtain⟨a,ha⟩:∃a,s[0]? = some a:=⟨s[0],sq⟩
  refine Z ?_;refine aC ha ?_;refine Z ?_;refine aL (λh=>?_) (λh=>?_)
  · rw[h]
    refine Z ?_;refine aA nn ⟨?_,rfl,rfl⟩;rw[kW ha (by simp[upper] at *;omega)]
  have h3:65<=(a.toNat:Int):=su h
  rw[h];refine Z ?_;refine aC ha ?_;refine Z ?_;refine aL (λh=>?_) (λh=>?_)
  · refine Z ?_
    refine aA nn ⟨?_,rfl,rfl⟩;rw[kW ha (by simp[upper] at *;omega)]
  have h4:(a.toNat:Int)<=90:=su h
  refine Z ?_;refine bJ.at bI (λi:Nat=>i<=s.length/\∀j c,j<i->s[j]? = some c->xG c.toNat=true)
    (λi=>⟨[(0,.str s),(3,.int .i64 i)],[],0,64⟩) (λi=>s.length-i) 0 [] ⟨sq,sq⟩
    (b9 ⟨aG,aG,trivial⟩) ?_
  rintro i ⟨hi,hall⟩;refine Z ?_;refine aL (λh=>?_) (λh=>?_)
  · have hlt:i<s.length:=su h
    obtain⟨c,hc⟩:∃c,s[i]? = some c:=⟨s[i],by simp[hlt]⟩
    have hc':s[(i:Int).toNat]? = some c:=by rw[Y1];exact hc
    refine Z ?_;refine aC hc' ?_;refine Z ?_;repeat' (refine aL (λh=>?_) (λh=>?_)<;>((try rw[h]);refine Z ?_))
    all_goals first
      | (refine aA nn ⟨?_,rfl,rfl⟩
         rw[yG hc (by rw[aAO];simp[xG] at *;omega)])
      | (refine .mk (i+1) [] ⟨om,λj c2 hj hc2=>?_⟩ (b9 ⟨aG,RF,trivial⟩) om
         rcases ZL j i with hj'|hj'
         · exact hall j c2 hj' hc2
         · have hji:j=i:=om
           rw[hji,hc] at hc2;cases hc2;simp[xG] at *;omega)
  · refine Z ?_
    refine aA nn ⟨?_,rfl,rfl⟩;have hk:i=s.length:=bk
    rw[yA ha h2 (by simp[upper];omega) λj c hc=>hall j c (by rw[hk];exact(Y4.1 hc).1) hc]
theorem PW(s:List UInt8)(hs:s.length<=4294967296):aU prog [] 236 [.str s] (.bool (gA s)):=by
 refine aD bI func236 rfl ?_;refine Z ?_;refine aL (λh=>?_) (λh=>?_)
 .rw[h];refine Z ?_;refine aA nn ⟨?_,rfl,rfl⟩;rw[vK (by simp at h;rw[h];simp)]
 have h1:1<=s.length:=by
  rcases ZF s.length with h'|h'
  .rw[ZH h'] at h;simp at h
  .exact h'
 rw[h];refine Z ?_;refine aL (λh=>?_) (λh=>?_)
 .rw[h];refine Z ?_;refine aA nn ⟨?_,rfl,rfl⟩;rw[tN bk]
 have h2:s.length<=16:=bk
 rw[h];obtain⟨a,ha⟩:∃a,s[0]? = some a:=⟨s[0],sq⟩
 refine Z ?_;refine aC ha ?_;refine Z ?_;refine aL (λh=>?_) (λh=>?_)
 .rw[h];refine Z ?_;refine aA nn ⟨?_,rfl,rfl⟩;rw[kW ha (by simp[upper] at *;omega)]
 have h3:65<=(a.toNat:Int):=su h
 rw[h];refine Z ?_;refine aC ha ?_;refine Z ?_;refine aL (λh=>?_) (λh=>?_)
 .refine Z ?_;refine aA nn ⟨?_,rfl,rfl⟩;rw[kW ha (by simp[upper] at *;omega)]
 have h4:(a.toNat:Int)<=90:=su h
 have hua:upper a.toNat=true:=by simp[upper];omega
 refine Z ?_;refine bJ.at bI (λi:Nat=>1<=i/\i<=s.length/\∀j c,j<i->s[j]? = some c->xG c.toNat=true)
  (λi=>⟨[(0,.str s),(3,.int .i64 i)],[],0,32⟩) (λi=>s.length-i) 1 [] ⟨sq,h1,λj c hj hc=>by rw[show j=0 by omega,ha] at hc;cases hc;exact JL hua⟩
  (b9 ⟨aG,aG,trivial⟩) ?_
 rintro i ⟨h0,hi,hall⟩;refine Z ?_;refine aL (λh=>?_) (λh=>?_)
 .have hlt:i<s.length:=su h
  obtain⟨c,hc⟩:∃c,s[i]? = some c:=⟨s[i],by simp[hlt]⟩
  have hc':s[(i:Int).toNat]? = some c:=by rw[Y1];exact hc
  refine Z ?_;refine aC hc' ?_;refine Z ?_;refine(SW c.toNat).go ?_;refine Z ?_;cases hb:xG c.toNat with
  | false=>
   refine Z ?_;refine aA nn ⟨?_,rfl,rfl⟩;rw[yG hc hb]
  | true=>
   refine Z ?_;refine .mk (i+1) [] ⟨om,om,λj c2 hj hc2=>?_⟩ (b9 ⟨aG,RF,trivial⟩) om;rcases ZL j i with hj'|hj'
   .exact hall j c2 hj' hc2
   .have hji:j=i:=om;rw[hji,hc] at hc2;cases hc2;exact hb
 .refine Z ?_;refine aA nn ⟨?_,rfl,rfl⟩;have hk:i=s.length:=by simp at h;omega
  rw[yA ha h2 hua λj c hc=>hall j c (by rw[hk];exact(Y4.1 hc).1) hc]
theorem Q9(vk vn:Int)(vs:List UInt8)(ks:List bH)(hs:vs.length<=4294967296):aU prog [] 192 [cC (.mk vk vn vs ks)] (.bool (dL vk vn vs ks.length)):=by
 refine aD bI func192 rfl ?_;refine Z ?_;repeat' (first|(refine aL (λh=>?_) (λh=>?_)<;>((try rw[h]);refine Z ?_))|(refine(PW vs hs).go ?_;refine Z ?_))
 all_goals
  refine aA nn ⟨?_,rfl,rfl⟩;congr 1;rw[Zv];simp_all[dL,aB,aAs,List.isEmpty_iff]
theorem Vu(vk vn:Int)(vs:List UInt8)(ks:List bH):aU prog [] 193 [cC (.mk vk vn vs ks)] (.bool (xR vk ks.length)):=by
 refine aD bI func193 rfl ?_;refine Z ?_;repeat' (refine aL (λh=>?_) (λh=>?_)<;>((try rw[h]);refine Z ?_))
 all_goals
  refine aA nn ⟨?_,rfl,rfl⟩;congr 1;rw[Zv];simp[xR,aB] at *;try omega
theorem Lv:∀v:bH,jG v->aU prog [] 188 [cC v] (.bool (cQ v))
  | .mk vk vn vs ks,hv=>by
    simp only[jG] at hv;obtain⟨hv1,hv2,hv3,hv4,hv5⟩:=hv;have ih:∀a∈ks,aU prog [] 188 [cC a] (.bool (cQ a)):=λa hm=>Lv a (pG hv5 a hm)
    clear hv5;refine aD bI func188 rfl ?_;refine Z ?_;refine(QT vs hv3).go ?_;obtain⟨cb,hcb⟩:∃cb,cb=gA vs:=cm
    rw[<-hcb];rcases(show vk=0\/vk=1\/vk=2\/vk=3\/(vk<0\/3<vk) by omega) with rfl|rfl|rfl|rfl|hk
    · refine Z ?_
      repeat' (refine aL (λh=>?_) (λh=>?_)<;>((try rw[h]);refine Z ?_))
      all_goals first
        | (refine aA nn ⟨?_,rfl,rfl⟩
           clear ih;have hf1:dL 0 vn vs ks.length=false:=by
             rw[aAO];simp_all[dL,aB,aAl];try omega
           rw[cQ,hf1];rfl)
        | (have hf1:dL 0 vn vs ks.length=true:=by
             clear ih;simp_all[dL,aB,aAl];try omega
           refine bJ.at bI (λk:Nat=>k<=ks.length/\Go.Ax.d9 (ks.take k)=true)
             (λk=>⟨[(1,.ptr 0 0 0),(4,.int .i64 k)],[(0,.row 50 4 [cC (.mk 0 vn vs ks)])],1,95⟩) (λk=>ks.length-k) 0 [(0,0)] ⟨sq,rfl⟩
             (aH _ rfl dc ⟨aM,aG,trivial⟩) ?_
           rintro k ⟨hk,hall⟩;refine Z ?_;refine aL (λh=>?_) (λh=>?_)
           · have hlt:=Ma h
             obtain⟨a,b,c,d,hm,hg,he,e1⟩:=dU hlt;have hih:=ih _ hm;obtain⟨fb,hfb⟩:∃fb,fb=cQ (.mk a b c d):=cm
             rw[<-hfb] at hih;refine Z ?_;refine aC e1 ?_;refine Z ?_;refine hih.go ?_;cases fb with
             | false=>
               refine Z ?_;refine aA nn ⟨?_,rfl,rfl⟩;rw[cQ,n7 hm hfb.symm,aBs]
             | true=>
               refine Z ?_;refine .mk (k+1) [(0,0)] ⟨om, ?_⟩ (aH _ rfl dc ⟨aM,RF,trivial⟩) om;rw[oY hlt,hall,he,<-hfb];rfl
           · have hk':k=ks.length:=by have:=MC h;omega
             refine Z ?_;refine aA nn ⟨?_,rfl,rfl⟩;rw[hk',ZK] at hall;rw[cQ,hf1,hall];rfl)
    · refine Z ?_
      repeat' (refine aL (λh=>?_) (λh=>?_)<;>((try rw[h]);refine Z ?_))
      all_goals first
        | (refine aA nn ⟨?_,rfl,rfl⟩
           clear ih;have hf1:dL 1 vn vs ks.length=false:=by
             rw[aAO];simp_all[dL,aB,aAl];try omega
           rw[cQ,hf1];rfl)
        | (have hf1:dL 1 vn vs ks.length=true:=by
             clear ih;simp_all[dL,aB,aAl];try omega
           refine bJ.at bI (λk:Nat=>k<=ks.length/\Go.Ax.d9 (ks.take k)=true)
             (λk=>⟨[(1,.ptr 0 0 0),(4,.int .i64 k)],[(0,.row 50 4 [cC (.mk 1 vn vs ks)])],1,95⟩) (λk=>ks.length-k) 0 [(0,0)] ⟨sq,rfl⟩
             (aH _ rfl dc ⟨aM,aG,trivial⟩) ?_
           rintro k ⟨hk,hall⟩;refine Z ?_;refine aL (λh=>?_) (λh=>?_)
           · have hlt:=Ma h
             obtain⟨a,b,c,d,hm,hg,he,e1⟩:=dU hlt;have hih:=ih _ hm;obtain⟨fb,hfb⟩:∃fb,fb=cQ (.mk a b c d):=cm
             rw[<-hfb] at hih;refine Z ?_;refine aC e1 ?_;refine Z ?_;refine hih.go ?_;cases fb with
             | false=>
               refine Z ?_;refine aA nn ⟨?_,rfl,rfl⟩;rw[cQ,n7 hm hfb.symm,aBs]
             | true=>
               refine Z ?_;refine .mk (k+1) [(0,0)] ⟨om, ?_⟩ (aH _ rfl dc ⟨aM,RF,trivial⟩) om;rw[oY hlt,hall,he,<-hfb];rfl
           · have hk':k=ks.length:=by have:=MC h;omega
             refine Z ?_;refine aA nn ⟨?_,rfl,rfl⟩;rw[hk',ZK] at hall;rw[cQ,hf1,hall];rfl)
    · refine Z ?_
      repeat' (refine aL (λh=>?_) (λh=>?_)<;>((try rw[h]);refine Z ?_))
      all_goals first
        | (refine aA nn ⟨?_,rfl,rfl⟩
           clear ih;have hf1:dL 2 vn vs ks.length=false:=by
             rw[aAO];simp_all[dL];try omega
           rw[cQ,hf1];rfl)
        | (have hf1:dL 2 vn vs ks.length=true:=by
             clear ih;simp_all[dL];try omega
           refine bJ.at bI (λk:Nat=>k<=ks.length/\Go.Ax.d9 (ks.take k)=true)
             (λk=>⟨[(1,.ptr 0 0 0),(4,.int .i64 k)],[(0,.row 50 4 [cC (.mk 2 vn vs ks)])],1,95⟩) (λk=>ks.length-k) 0 [(0,0)] ⟨sq,rfl⟩
             (aH _ rfl dc ⟨aM,aG,trivial⟩) ?_
           rintro k ⟨hk,hall⟩;refine Z ?_;refine aL (λh=>?_) (λh=>?_)
           · have hlt:=Ma h
             obtain⟨a,b,c,d,hm,hg,he,e1⟩:=dU hlt;have hih:=ih _ hm;obtain⟨fb,hfb⟩:∃fb,fb=cQ (.mk a b c d):=cm
             rw[<-hfb] at hih;refine Z ?_;refine aC e1 ?_;refine Z ?_;refine hih.go ?_;cases fb with
             | false=>
               refine Z ?_;refine aA nn ⟨?_,rfl,rfl⟩;rw[cQ,n7 hm hfb.symm,aBs]
             | true=>
               refine Z ?_;refine .mk (k+1) [(0,0)] ⟨om, ?_⟩ (aH _ rfl dc ⟨aM,RF,trivial⟩) om;rw[oY hlt,hall,he,<-hfb];rfl
           · have hk':k=ks.length:=by have:=MC h;omega
             refine Z ?_;refine aA nn ⟨?_,rfl,rfl⟩;rw[hk',ZK] at hall;rw[cQ,hf1,hall];rfl)
    · refine Z ?_
      repeat' (refine aL (λh=>?_) (λh=>?_)<;>((try rw[h]);refine Z ?_))
      all_goals first
        | (refine aA nn ⟨?_,rfl,rfl⟩
           clear ih;have hf1:dL 3 vn vs ks.length=false:=by
             rw[aAO];simp_all[dL];try omega
           rw[cQ,hf1];rfl)
        | (have hf1:dL 3 vn vs ks.length=true:=by
             clear ih;simp_all[dL];try omega
           refine bJ.at bI (λk:Nat=>k<=ks.length/\Go.Ax.d9 (ks.take k)=true)
             (λk=>⟨[(1,.ptr 0 0 0),(4,.int .i64 k)],[(0,.row 50 4 [cC (.mk 3 vn vs ks)])],1,95⟩) (λk=>ks.length-k) 0 [(0,0)] ⟨sq,rfl⟩
             (aH _ rfl dc ⟨aM,aG,trivial⟩) ?_
           rintro k ⟨hk,hall⟩;refine Z ?_;refine aL (λh=>?_) (λh=>?_)
           · have hlt:=Ma h
             obtain⟨a,b,c,d,hm,hg,he,e1⟩:=dU hlt;have hih:=ih _ hm;obtain⟨fb,hfb⟩:∃fb,fb=cQ (.mk a b c d):=cm
             rw[<-hfb] at hih;refine Z ?_;refine aC e1 ?_;refine Z ?_;refine hih.go ?_;cases fb with
             | false=>
               refine Z ?_;refine aA nn ⟨?_,rfl,rfl⟩;rw[cQ,n7 hm hfb.symm,aBs]
             | true=>
               refine Z ?_;refine .mk (k+1) [(0,0)] ⟨om, ?_⟩ (aH _ rfl dc ⟨aM,RF,trivial⟩) om;rw[oY hlt,hall,he,<-hfb];rfl
           · have hk':k=ks.length:=by have:=MC h;omega
             refine Z ?_;refine aA nn ⟨?_,rfl,rfl⟩;rw[hk',ZK] at hall;rw[cQ,hf1,hall];rfl)
    · have e0:(vk == 0)=false:=by simp;omega
      have e1:(vk == 1)=false:=B'
      have e2:(vk == 2)=false:=B'
      have e3:(vk == 3)=false:=B'
      have hf1:dL vk vn vs ks.length=false:=by
        unfold dL;rw[Y3 om,Y3 om,Y3 om,Y3 om]
      have hfin:AV.bool false=AV.bool (cQ (.mk vk vn vs ks)):=by rw[cQ,hf1];rfl
      refine Z ?_;repeat((first|rw[e0]|rw[e1]|rw[e2]|rw[e3]);refine Z ?_)
      refine aL (λh=>?_) (λh=>?_)
      · rw[h]
        refine Z ?_;exact aA nn ⟨hfin,rfl,rfl⟩
      · rw[h]
        refine Z ?_;refine aL (λh'=>?_) (λh'=>?_)
        · refine Z ?_
          exact aA nn ⟨hfin,rfl,rfl⟩
        · exfalso
          simp at h h';omega
  termination_by v=>SizeOf.sizeOf v
  decreasing_by simp;have:=aAI hm;omega
theorem Tc:∀v:bH,jG v->aU prog [] 189 [cC v] (.bool (oP v))
  | .mk vk vn vs ks,hv=>by
    simp only[jG] at hv;obtain⟨hv1,hv2,hv3,hv4,hv5⟩:=hv;have ih:∀a∈ks,aU prog [] 189 [cC a] (.bool (oP a)):=λa hm=>Tc a (pG hv5 a hm)
    clear hv5;refine aD bI func189 rfl ?_;refine Z ?_;repeat' (refine aL (λh=>?_) (λh=>?_)<;>((try rw[h]);refine Z ?_))
    all_goals first
      | (refine aA nn ⟨?_,rfl,rfl⟩
         clear ih;have hf1:An vk ks.length=true:=by
           simp[An,aB] at *;omega
         rw[oP,hf1];rfl)
      | (have hf1:An vk ks.length=false:=by
           clear ih;rw[aAO];simp[An,aB] at *;omega
         refine bJ.at bI (λk:Nat=>k<=ks.length/\rT (ks.take k)=false)
           (λk=>⟨[(1,.ptr 0 0 0),(3,.int .i64 k)],[(0,.row 50 4 [cC (.mk vk vn vs ks)])],1,39⟩) (λk=>ks.length-k) 0 [(0,0)] ⟨sq,rfl⟩
           (aH _ rfl dc ⟨aM,aG,trivial⟩) ?_
         rintro k ⟨hk,hall⟩;refine Z ?_;refine aL (λh=>?_) (λh=>?_)
         · have hlt:=Ma h
           obtain⟨a,b,c,d,hm,hg,he,e1⟩:=dU hlt;have hih:=ih _ hm;obtain⟨fb,hfb⟩:∃fb,fb=oP (.mk a b c d):=cm
           rw[<-hfb] at hih;refine Z ?_;refine aC e1 ?_;refine Z ?_;refine hih.go ?_;cases fb with
           | true=>
             refine Z ?_;refine aA nn ⟨?_,rfl,rfl⟩;rw[oP,Go.Ax.Fd hm hfb.symm,Bool.or_true]
           | false=>
             refine Z ?_;refine .mk (k+1) [(0,0)] ⟨om, ?_⟩ (aH _ rfl dc ⟨aM,RF,trivial⟩) om;rw[J7 hlt,hall,he,<-hfb];rfl
         · have hk':k=ks.length:=by have:=MC h;omega
           refine Z ?_;refine aA nn ⟨?_,rfl,rfl⟩;rw[hk',ZK] at hall;rw[oP,hf1,hall];rfl)
  termination_by v=>SizeOf.sizeOf v
  decreasing_by simp;have:=aAI hm;omega
theorem VU:∀v:bH,jG v->bS v<=1099511627776->aU prog [] 119 [cC v] (.int .i64 (hZ v))
 | .mk vk vn vs ks,hv,hs=>by
  have h1:=Lv _ hv;have h2:=Tc _ hv;have h3:=P7 _ hs;have hval:hZ (.mk vk vn vs ks)=if cQ (.mk vk vn vs ks)=false then 1 else if oP (.mk vk vn vs ks)=true\/1024<bS (.mk vk vn vs ks) then 4 else 0:=rfl
  generalize cQ (.mk vk vn vs ks)=fb at h1 hval;generalize oP (.mk vk vn vs ks)=wb at h2 hval;generalize bS (.mk vk vn vs ks)=sz at h3 hval;generalize hZ (.mk vk vn vs ks)=res at hval;refine aD bI func119 rfl ?_;refine Z ?_;refine h1.go ?_;cases fb with
  | false=>
   refine Z ?_;refine aA nn ⟨?_,rfl,rfl⟩;rw[hval];rfl
  | true=>
   refine Z ?_;refine h2.go ?_;cases wb with
   | true=>
    refine Z ?_;refine aA nn ⟨?_,rfl,rfl⟩;rw[hval];simp
   | false=>
    refine Z ?_;refine h3.go ?_;refine Z ?_;refine aL (λh=>?_) (λh=>?_)
    .refine Z ?_;refine aA nn ⟨?_,rfl,rfl⟩;rw[hval,Y3 sq,Y7 bk]
    .refine Z ?_;refine aA nn ⟨?_,rfl,rfl⟩;rw[hval,Y3 sq,Y3 (by simp at h;simp;omega)]
theorem NI(n:Int):i64 (IntKind.i64.wrap n):=by
 rw[IntKind.wrap_i64];exact oq
theorem Rp(n most:Int)(hn:i64 n)(hm:1<=most):aU prog [] 54 [.int .i64 n,.int .i64 most] (.int .i64 (r8 n most)):=by
 have hz:decide (most≠0)=true:=B'
 unfold i64 at hn;refine aD bI func54 rfl ?_;refine Z ?_;refine aL (λh=>?_) (λh=>?_)
 .have h:n<0:=su h
  refine Z ?_;refine aK (by rw[ZG om];rfl) ?_;refine Z ?_;refine aA nn ⟨?_,rfl,rfl⟩;rw[r8,Y7 h,w64 (x:=n+1) (y:=n+1) rfl oq,w64 (x:=0-(n+1)) (y:=-(n+1)) om oq]
 .have h:¬n<0:=su h
  refine Z ?_;refine aK (by rw[ZG om];rfl) ?_;refine Z ?_;refine aA nn ⟨?_,rfl,rfl⟩;rw[r8,Y3 h]
theorem Ho(l:List Int)(i most:Int)(hl:∀x∈l,i64 x)(hm:1<=most):aU prog [] 18 [.il 1 (aY l),.int .i64 i,.int .i64 most] (.int .i64 (mK l i most)):=by
 refine aD bI func18 rfl ?_;refine Z ?_;refine aL (λh=>?_) (λh=>?_)
 .rw[h];refine Z ?_;refine aA nn ⟨?_,rfl,rfl⟩;rw[mK,Y7 (.inl (su h))]
 .have h0:0<=i:=su h
  rw[h];refine Z ?_;refine aL (λh=>?_) (λh=>?_)
  .refine Z ?_;refine aA nn ⟨?_,rfl,rfl⟩;rw[aN] at h;rw[mK,Y7 (.inr (su h))]
  .rw[aN] at h;have h1:i<l.length:=su h
   obtain⟨q,rfl⟩:=ZU h0;have hq:q<l.length:=om;refine Z ?_;refine aC (a:=.int .i64 l[q]) (by rw[Y1,bU,Yz hq];rfl) ?_;refine Z ?_;refine(Rp l[q] most (hl _ (Za hq)) hm).go ?_;refine Z ?_;refine aA nn ⟨?_,rfl,rfl⟩;rw[mK,Y3 om,Y1,Y0,Yz hq];rfl
theorem P3(l:List Int)(i j:Int)(hl:∀x∈l,i64 x)(hi:1<=i)(hi':i<=1000)(hj:0<=j)(hj':j<=1000):aU prog [] 20 [.il 1 (aY l),.int .i64 i,.int .i64 j] (.int .i64 (kidI l i j)):=by
 have hp:=Ho l (3*i+j+2) 1000000 hl om;have hb:=lL (l:=l) (i:=3*i+j+2) (most:=1000000) om;have hk:kidI l i j=if (mK l (3*i+j+2) 1000000).tmod 3=0 then((mK l (3*i+j+2) 1000000).tdiv 3).tmod i else max 0 (i-1-((mK l (3*i+j+2) 1000000).tdiv 3).tmod 3):=rfl
 generalize mK l (3*i+j+2) 1000000=p at hp hb hk;rw[hk];have hd:0<=p.tdiv 3/\p.tdiv 3<=1000000:=by
  rw[aAB hb.1];omega
 have hd3:0<=(p.tdiv 3).tmod 3/\(p.tdiv 3).tmod 3<3:=⟨aA3 _ hd.1,aAW _ om⟩
 refine aD bI func20 rfl ?_;refine Z ?_;rw[w64 (x:=3*i) (y:=3*i) rfl oq,w64 (x:=3*i+j) (y:=3*i+j) rfl oq,w64 (x:=3*i+j+2) (y:=3*i+j+2) rfl oq];refine hp.go ?_;refine Z ?_;refine aL (λh=>?_) (λh=>?_)
 .have h:p.tmod 3=0:=su h
  refine Z ?_;refine aK (by rw[ZG om];rfl) ?_;refine Z ?_;refine aA nn ⟨?_,rfl,rfl⟩;rw[Y7 h,w64 (x:=p.tdiv 3) (y:=p.tdiv 3) rfl oq]
 .have h:¬p.tmod 3=0:=su h
  refine Z ?_;refine aA nn ⟨?_,rfl,rfl⟩;rw[Y3 h,w64 (x:=p.tdiv 3) (y:=p.tdiv 3) rfl oq,w64 (x:=i-1) (y:=i-1) rfl oq,w64 (x:=i-1-(p.tdiv 3).tmod 3) (y:=i-1-(p.tdiv 3).tmod 3) rfl oq];congr 1;simp;omega
theorem Tm(k:Int)(h0:0<=k)(h1:k<=1000000):aU prog [] 19 [.int .i64 k] (cC (x5 k)):=by
 have hd:0<=k.tdiv 4/\k.tdiv 4<=1000000:=by
  rw[aAB h0];omega
 have hm:0<=k.tmod 4/\k.tmod 4<4:=⟨aA3 _ h0,aAW _ om⟩
 have h9:0<=(k.tdiv 4).tmod 9/\(k.tdiv 4).tmod 9<9:=⟨aA3 _ hd.1,aAW _ om⟩
 have h3:0<=(k.tdiv 4).tmod 3/\(k.tdiv 4).tmod 3<3:=⟨aA3 _ hd.1,aAW _ om⟩
 have hw:IntKind.i64.wrap (k.tdiv 4)=k.tdiv 4:=w64 rfl oq;have hv:x5 k=if k.tmod 4=0 then .mk 0 ((k.tdiv 4).tmod 9-4) [] []
  else if k.tmod 4=1 then .mk 1 ((k.tdiv 4).tmod 2) [] []
  else if k.tmod 4=2 then .mk 3 0 (([[76,101,97,102],[82,101,100],[88]]:List (List UInt8)).getD ((k.tdiv 4).tmod 3).toNat []) []
  else .mk 2 0 [] [.mk 0 ((k.tdiv 4).tmod 3) [] []]:=rfl
 generalize x5 k=v at hv;have hw9:IntKind.i64.wrap ((k.tdiv 4).tmod 9-4)=(k.tdiv 4).tmod 9-4:=w64 rfl oq;refine aD bI func19 rfl ?_;rcases(show k.tmod 4=0\/k.tmod 4=1\/k.tmod 4=2\/k.tmod 4=3 by omega) with e|e|e|e
 .rw[Y7 e] at hv;refine Z ?_;rw[e];refine Z ?_;rw[hw,hw9];exact cN (.agg' bf) ⟨by rw[hv];rfl,rfl,rfl⟩
 .rw[Y3 om,Y7 e] at hv;refine Z ?_;rw[e];refine Z ?_;rw[hw];exact cN (.agg' bf) ⟨by rw[hv];rfl,rfl,rfl⟩
 .rw[Y3 om,Y3 om,Y7 e] at hv;refine Z ?_;rw[e];refine Z ?_;rw[hw];rcases(show (k.tdiv 4).tmod 3=0\/(k.tdiv 4).tmod 3=1\/(k.tdiv 4).tmod 3=2 by omega) with e3|e3|e3
  all_goals
   rw[e3] at hv |-;refine Z ?_;exact cN (.agg' bf) ⟨by rw[hv];rfl,rfl,rfl⟩
 .rw[Y3 om,Y3 om,Y3 om] at hv;refine Z ?_;rw[e];refine Z ?_;rw[hw];exact cN (.agg' (.s (.s (.s (.cons (.fzR rfl rfl (.cons (x7 _ _ _) .nil) rfl) .nil))))) ⟨by rw[hv];rfl,rfl,rfl⟩
end Go.Proofs.YthggfhnnkclooaaGreatDoor
