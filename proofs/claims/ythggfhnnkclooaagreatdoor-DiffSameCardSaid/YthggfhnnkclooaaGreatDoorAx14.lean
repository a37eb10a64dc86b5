/- A part of the proof. -/
import Derived.Test.YthggfhnnkclooaaGreatDoorAx13
import Derived.Test.YthggfhnnkclooaaGreatDoorProg
import Derived.KernelRfl
set_option linter.unusedSectionVars false
set_option linter.unusedVariables false
set_option linter.unusedSimpArgs false
set_option maxRecDepth 1000000
set_option maxHeartbeats 16000000
namespace Go.Proofs.YthggfhnnkclooaaGreatDoor
open Go Go.Ax Go.Proofs Tryz
theorem Xo:yB 1 1=⟨1,1⟩:=by rfl
theorem Po{m:Nat}{a:Fr}(h:Jj m a)(hm:m<zS):FP a:=by
 have h1:=h.pos;have h2:=h.le;have h3:=h.lt;have hd:a.den=a.q:=by unfold Fr.den;rw[Yz (by have:=h.can.pos;omega)]
 refine⟨?_, ?_⟩
 .unfold iR;exact Y7 om
 .rw[hd];unfold iR;exact Y7 om
theorem L5{m:Nat}{a:Fr}(h:Jj m a):nF a=a:=by
 have hd:a.den=a.q:=by unfold Fr.den;rw[Yz (by have:=h.can.pos;omega)]
 unfold nF;rw[hd]
theorem XC(x:AV)(nx:NN x):aX prog [] 72 [x] (lR ⟨1,1⟩):=by
 have h:=Xx 1 1 oq oq (by decide);rw[Xo] at h;obtain⟨b,l,c,m,-,-,e⟩:=fH ⟨1,1⟩;rw[e] at h |-;refine aG bJ func72 rfl ?_;refine Z ?_;refine h.go ?_ (.cons nn (.cons nn .nil)) (.tup' (.cons (zA _ _ _ _) (.cons nn .nil)));refine Rt ?_;exact aA (zA _ _ _ _) ⟨rfl,rfl,rfl⟩
theorem TD{A:List Nd}(h:VT A){n:Nat}(hn:n<A.length)(hk:(aD A n).kind=1\/(aD A n).kind=2){c:Int}(h0:0<=c)(h1:c<fA (aD A n)) :
  aX prog [] 77 [.ip (cK (aD A n)),.int .i64 c] (lR (HR (aD A n) c)):=by
 have hx:=cG hn;have g:=h.node hx;have hw:=DB g.node.num;have hwl:=λh2=>h.wlen hx h2
 have hr:=g.opt.rng;have hkl:=g.opt.klen;have hO:=Vx (aD A n) (λ_=>g.node.num);have nx:=bH (aD A n);generalize aD A n=x at *;have hop:fA x=if x.kind=1 then x.hi-x.lo+1 else x.kids.length:=rfl
 have hcf:HR x c=if x.kind=2 then yB (x.weights.getD c.toNat 0) (Dw x.weights) else yB 1 (x.hi-x.lo+1):=rfl
 by_cases h2:x.kind=2
 .rw[Y4 h2] at hcf;rw[Yz om] at hop;obtain⟨l1,l2⟩:=hwl h2;have hc:c.toNat<x.weights.length:=om;have h3:=Gy x.weights 0 c.toNat hw hc;have h4:=(Aj x.weights 0 hw).2;have h5:1<=x.weights.getD c.toNat 0/\x.weights.getD c.toNat 0<=1000:=by
   rw[Yx,Yw hc];exact hw _ (ZW hc)
  have hsum:Dw x.weights=x.weights.foldl (· + ·) 0:=rfl;have hP:=Xx (x.weights.getD c.toNat 0) (Dw x.weights) oq oq om;rw[<-hcf] at hP;have hsk:=λk=>N6 hw om k
  obtain⟨k1,n1,lo1,hi1,w1,b1,v1,ks1,⟨vk1,vn1,vs1,vks1⟩⟩:=x;simp only at h2 l1 hkl;have hwb:w1.length<=2000:=om;subst h2;have ec:(aV w1)[c.toNat]? = some (.int .i64 (w1.getD c.toNat 0)):=by
   rw[bK,Yw hc,Yx,Yw hc];rfl
  generalize w1.getD c.toNat 0=wc at *;generalize HR ⟨2,n1,lo1,hi1,w1,b1,v1,ks1,.mk vk1 vn1 vs1 vks1⟩ c=F at *;have nF:=wX F;obtain⟨q1,q2,q3,q4,-,-,eF⟩:=fH F;rw[eF] at hP nF |-;have nw:NN (.il 1 (aV w1)):=.il' (aT w1);have lw:=aH w1;refine aG bJ func77 rfl ?_;refine Z ?_;refine hO.go ?_ (.cons (.ip' nx) .nil) nn;refine Z ?_;rw[Y7 h0];refine Z ?_;repeat((first|refine aC ec ?_|refine aY ?_);refine Z ?_)
  refine bI.at bJ (λk:Nat=>k<=w1.length)
   (λk=>⟨[(4,.ptr 0 0 0),(5,.int .i64 wc),(6,.int .i64 (Dw (w1.take k))),(28,.il 1 (aV w1)),(29,.int .i64 w1.length),(30,.int .i64 k)],[(0,.row 34 4 [.agg [.bool false,.nsl,.bool false,.nsl]])],1,45⟩) (λk=>w1.length-k) 0 [(0,0)] sq
   (aK _ rfl ⟨aI 0 (.cons (.agg' (.cons nn (.cons nn (.cons nn (.cons nn .nil))))) .nil),trivial⟩ ⟨aN,aF,aF,aP nw,⟨_,rfl,.int (by simp[lw])⟩,aF,trivial⟩) ?_
  intro k hk;refine Z ?_;refine aL (λhb=>?_) (λhb=>?_)
  .rw[hb];have hlt:k<w1.length:=by have:=Zh hb;omega
   have ek:(aV w1)[((k:Nat):Int).toNat]? = some (.int .i64 w1[k]):=by rw[Yy,bK,Yw hlt];rfl
   have es:Dw (w1.take (k+1))=Dw (w1.take k)+w1[k]:=by unfold Dw;rw[List.take_succ_eq_append_getElem hlt,Zz];rfl
   have hsi:=hsk (k+1);rw[es] at hsi;generalize w1[k]=z at ek es hsi;refine Z ?_;repeat((first|refine aC ek ?_|refine aY ?_);refine Z ?_)
   exact .mk (k+1) [(0,0)] om (aK _ rfl ⟨aI 0 (.cons (.agg' (.cons nn (.cons nn (.cons nn (.cons nn .nil))))) .nil),trivial⟩ ⟨aN,aF,⟨_,rfl,.w64 es.symm (by rw[es];exact hsi)⟩,aP nw,aF,⟨_,rfl,.w64 om oq⟩,trivial⟩) om
  .rw[hb];have:k=w1.length:=by have:=aAX hb;omega
   subst this;rw[ZJ];refine Z ?_;refine hP.go ?_ (.cons nn (.cons nn .nil)) (.tup' (.cons nF (.cons nn .nil)));refine Rt ?_;exact aA nF ⟨rfl,rfl,rfl⟩
 .rw[Yz h2] at hcf;have h1':x.kind=1:=om;rw[Y4 h1'] at hop;have hP:=Xx 1 (x.hi-x.lo+1) oq oq om;rw[<-hcf] at hP;rw[hop] at hO;obtain⟨k1,n1,lo1,hi1,w1,b1,v1,ks1,⟨vk1,vn1,vs1,vks1⟩⟩:=x;simp only at h1';subst h1';generalize HR ⟨1,n1,lo1,hi1,w1,b1,v1,ks1,.mk vk1 vn1 vs1 vks1⟩ c=F at *;have nF:=wX F;obtain⟨q1,q2,q3,q4,-,-,eF⟩:=fH F;rw[eF] at hP nF |-;refine aG bJ func77 rfl ?_;refine Z ?_;refine hO.go ?_ (.cons (.ip' nx) .nil) nn;refine Z ?_;refine hP.go ?_ (.cons nn (.cons nn .nil)) (.tup' (.cons nF (.cons nn .nil)));refine Rt ?_;exact aA nF ⟨rfl,rfl,rfl⟩
theorem OH(x:Int):aX prog [] 225 [.int .i64 x] (.bool false):=by
 refine fG bJ func225 rfl ?_
 conv=>whnf
 refine aA (.bool _) ⟨?_,rfl,rfl⟩;simp
theorem Nz(x:List UInt8):aX prog [] 226 [.str x] (.bool false):=by
 refine fG bJ func226 rfl ?_
 conv=>whnf
 refine aA (.bool _) ⟨?_,rfl,rfl⟩;simp
theorem Pv(x y:Int):aX prog [] 173 [.int .i64 x,.int .i64 y] (.int .i64 (q7 x y)):=by
 refine fG bJ func173 rfl ?_
 conv=>whnf
 refine(OH x).use bJ (.cons (.int _ _) .nil) (.bool _) ?_
 conv=>whnf
 refine(OH y).use bJ (.cons (.int _ _) .nil) (.bool _) ?_
 conv=>whnf
 refine aL (λh=>?_) (λh=>?_)
 .conv=>whnf
  refine aA (.int _ _) ⟨?_,rfl,rfl⟩;simp at h;simp[q7,h]
 conv=>whnf
 refine aL (λh'=>?_) (λh'=>?_)
 .conv=>whnf
  refine aA (.int _ _) ⟨?_,rfl,rfl⟩;simp at h h';simp only[q7];rw[Yz om,Y4 om]
 .conv=>whnf
  refine aA (.int _ _) ⟨?_,rfl,rfl⟩;simp at h h';simp only[q7];rw[Yz om,Yz om]
theorem VQ(x y:List UInt8):aX prog [] 174 [.str x,.str y] (.int .i64 (kE x y)):=by
 refine fG bJ func174 rfl ?_
 conv=>whnf
 refine(Nz x).use bJ (.cons (.str _) .nil) (.bool _) ?_
 conv=>whnf
 refine(Nz y).use bJ (.cons (.str _) .nil) (.bool _) ?_
 conv=>whnf
 refine aL (λh=>?_) (λh=>?_)
 .conv=>whnf
  refine aA (.int _ _) ⟨?_,rfl,rfl⟩;rw[FT.1 h]
 conv=>whnf
 refine aL (λh'=>?_) (λh'=>?_)
 .conv=>whnf
  refine aA (.int _ _) ⟨?_,rfl,rfl⟩;rw[NP h h']
 .conv=>whnf
  refine aA (.int _ _) ⟨?_,rfl,rfl⟩;rw[Mw h h']
theorem R5(l1 l2:List bD)(hb:l1.length<=4294967296)(hc:∀a∈l1,∀b∈l2,aX prog [] 104 [bY a,bY b] (.int .i64 (cN a b))) :
  aX prog [] 175 [.il 4 (aR l1),.il 4 (aR l2),.fn (.func 104) [] []] (.int .i64 (gJ l1 l2)):=by
 have n1:NN (.il 4 (aR l1)):=.il' (aW l1);have n2:NN (.il 4 (aR l2)):=.il' (aW l2);have n3:NN (.fn (.func 104) [] []):=.fn _ _ _ sq sq;refine fG bJ func175 rfl ?_
 conv=>whnf
 refine eH.loopAt bJ (λk:Nat=>k<=l1.length/\k<=l2.length/\gJ l1 l2=gJ (l1.drop k) (l2.drop k))
  (λk=>⟨[(0,.il 4 (aR l1)),(1,.il 4 (aR l2)),(2,.fn (.func 104) [] []),(11,.il 4 (aR l1)),(12,.int .i64 (aR l1).length),(13,.int .i64 k)],[],0,39⟩)
  (λk=>l1.length-k) 0 [] ⟨sq,sq,sq⟩
  (bX ⟨aP n1,aP n2,aP n3,aP n1,aP (.int _ _),aP (.int _ _),trivial⟩) ?_
 rintro k ⟨h1,h2,h3⟩
 conv=>whnf
 refine aL (λh=>?_) (λh=>?_)
 .have hk:k<l1.length:=by rw[aB] at h;simpa using h
  obtain⟨⟨ka,na,sa,ksa⟩,hv⟩:∃v,v=l1[k]:=⟨_,rfl⟩
  have hm:bD.mk ka na sa ksa∈l1:=by rw[hv];exact ZW hk
  have e:(aR l1)[(k:Int).toNat]? = some (bY (.mk ka na sa ksa)):=by rw[Yy,i6,Yw hk,hv];rfl
  conv=>whnf
  refine aC e ?_
  conv=>whnf
  refine aL (λh'=>?_) (λh'=>?_)
  .have hk2:k=l2.length:=by rw[aB] at h';simp at h';omega
   conv=>whnf
   refine aA (.int _ _) ⟨?_,rfl,rfl⟩;rw[h3,Z7 (l:=l2) om,List.drop_eq_getElem_cons hk,gJ]
  .have hk2:k<l2.length:=by rw[aB] at h';simpa using h'
   obtain⟨⟨kb,nb,sb,ksb⟩,hv2⟩:∃v,v=l2[k]:=⟨_,rfl⟩
   have hm2:bD.mk kb nb sb ksb∈l2:=by rw[hv2];exact ZW hk2
   have e2:(aR l2)[(k:Int).toNat]? = some (bY (.mk kb nb sb ksb)):=by rw[Yy,i6,Yw hk2,hv2];rfl
   conv=>whnf
   refine aC e2 ?_
   conv=>whnf
   refine(hc _ hm _ hm2).use bJ (.cons (bT _) (.cons (bT _) .nil)) (.int _ _) ?_
   conv=>whnf
   have hs:=FU hk hk2;rw[<-hv,<-hv2] at hs;refine aL (λh4=>?_) (λh4=>?_)
   .conv=>whnf
    refine aA (.int _ _) ⟨?_,rfl,rfl⟩;have h4:cN (.mk ka na sa ksa) (.mk kb nb sb ksb)≠0:=su h4
    rw[h3,hs,andThen,Yz h4]
   .have h4:cN (.mk ka na sa ksa) (.mk kb nb sb ksb)=0:=su h4
    conv=>whnf
    refine .mk (k+1) [] ⟨om,om, ?_⟩ (bX ⟨aP n1,aP n2,aP n3,aP n1,aP (.int _ _),⟨_,rfl,.eq (.int _ _) ?_⟩,trivial⟩) om
    .rw[h3,hs,andThen,Y4 h4]
    .rw[bS oq];rfl
 .have hk:k=l1.length:=by rw[aB] at h;simp at h;omega
  have hd:l1.drop k=[]:=Z7 om
  conv=>whnf
  refine aL (λh'=>?_) (λh'=>?_)
  .have hk2:l1.length<l2.length:=by rw[aB,aB] at h';simpa using h'
   conv=>whnf
   refine aA (.int _ _) ⟨?_,rfl,rfl⟩;rw[h3,hd,List.drop_eq_getElem_cons (show k<l2.length by omega),gJ]
  .have hk2:l2.length<=l1.length:=by rw[aB,aB] at h';simpa using h'
   conv=>whnf
   refine aA (.int _ _) ⟨?_,rfl,rfl⟩;rw[h3,hd,Z7 om,gJ]
theorem oE:∀(a b:bD),iG a->aX prog [] 104 [bY a,bY b] (.int .i64 (cN a b))
 | .mk ka na sa ksa,.mk kb nb sb ksb,ha=>by
  simp only[iG] at ha;have hkids:∀a∈ksa,∀b∈ksb,aX prog [] 104 [bY a,bY b] (.int .i64 (cN a b)):=λa hm b _=>oE a b (pW ha.2.2.2.2 a hm)
  refine fG bJ func104 rfl ?_
  conv=>whnf
  refine(Pv ka kb).use bJ (.cons (.int _ _) (.cons (.int _ _) .nil)) (.int _ _) ?_
  conv=>whnf
  refine aL (λh=>?_) (λh=>?_)
  .conv=>whnf
   refine aA (.int _ _) ⟨?_,rfl,rfl⟩;have h:q7 ka kb≠0:=su h
   rw[cN,andThen,Yz h]
  have h:q7 ka kb=0:=su h
  conv=>whnf
  refine(Pv na nb).use bJ (.cons (.int _ _) (.cons (.int _ _) .nil)) (.int _ _) ?_
  conv=>whnf
  refine aL (λh2=>?_) (λh2=>?_)
  .conv=>whnf
   refine aA (.int _ _) ⟨?_,rfl,rfl⟩;have h2:q7 na nb≠0:=su h2
   rw[cN,andThen,Y4 h,andThen,Yz h2]
  have h2:q7 na nb=0:=su h2
  conv=>whnf
  refine(VQ sa sb).use bJ (.cons (.str _) (.cons (.str _) .nil)) (.int _ _) ?_
  conv=>whnf
  refine aL (λh3=>?_) (λh3=>?_)
  .conv=>whnf
   refine aA (.int _ _) ⟨?_,rfl,rfl⟩;have h3:kE sa sb≠0:=su h3
   rw[cN,andThen,Y4 h,andThen,Y4 h2,andThen,Yz h3]
  have h3:kE sa sb=0:=su h3
  conv=>whnf
  refine(R5 ksa ksb ha.2.2.2.1 hkids).use bJ (.cons (.il' (aW _)) (.cons (.il' (aW _)) (.cons (.fn _ _ _ sq sq) .nil))) (.int _ _) ?_
  conv=>whnf
  refine aA (.int _ _) ⟨?_,rfl,rfl⟩;rw[cN,andThen,Y4 h,andThen,Y4 h2,andThen,Y4 h3]
 termination_by a=>SizeOf.sizeOf a
 decreasing_by simp;have:=aAw hm;omega
theorem JJ(b:Bool):aX prog [] 111 [.bool b] (.int .i64 (if b then -1 else 1)):=by
 refine fG bJ func111 rfl ?_
 conv=>whnf
 refine aL (λh=>?_) (λh=>?_)
 .conv=>whnf
  exact aA (.int _ _) ⟨by rw[h];rfl,rfl,rfl⟩
 .conv=>whnf
  exact aA (.int _ _) ⟨by rw[h];rfl,rfl,rfl⟩
theorem vF:∀(a b:bD),iG a->aX prog [] 49 [bY a,bY b] (.int .i64 (cN a b))
 | .mk ka na sa ksa,.mk kb nb sb ksb,ha=>by
  simp only[iG] at ha;have hb:ksa.length<=4294967296:=ha.2.2.2.1;have hkids:∀a∈ksa,∀b∈ksb,aX prog [] 49 [bY a,bY b] (.int .i64 (cN a b)):=λa hm b _=>vF a b (pW ha.2.2.2.2 a hm)
  refine fG bJ func49 rfl ?_
  conv=>whnf
  refine aL (λh=>?_) (λh=>?_)
  .conv=>whnf
   refine(JJ _).use bJ (.cons (.bool _) .nil) (.int _ _) ?_
   conv=>whnf
   refine aA (.int _ _) ⟨?_,rfl,rfl⟩;rw[Mr (su h)];simp
  have h:ka=kb:=su h
  conv=>whnf
  refine aL (λh2=>?_) (λh2=>?_)
  .conv=>whnf
   refine(JJ _).use bJ (.cons (.bool _) .nil) (.int _ _) ?_
   conv=>whnf
   refine aA (.int _ _) ⟨?_,rfl,rfl⟩;rw[QF h (su h2)];simp
  have h2:na=nb:=su h2
  conv=>whnf
  refine aL (λh3=>?_) (λh3=>?_)
  .conv=>whnf
   refine(JJ _).use bJ (.cons (.bool _) .nil) (.int _ _) ?_
   conv=>whnf
   refine aA (.int _ _) ⟨?_,rfl,rfl⟩;rw[UV h h2 (su h3)]
  have h3:sa=sb:=su h3
  have hcmp:cN (.mk ka na sa ksa) (.mk kb nb sb ksb)=gJ ksa ksb:=UC h h2 h3
  conv=>whnf
  refine eH.loopAt bJ (λk:Nat=>k<=ksa.length/\k<=ksb.length/\gJ ksa ksb=gJ (ksa.drop k) (ksb.drop k))
   (λk=>⟨[(2,.ptr 0 0 0),(3,.ptr 1 0 0),(5,.int .i64 k)],[(1,.row 50 4 [bY (.mk kb nb sb ksb)]),(0,.row 50 4 [bY (.mk ka na sa ksa)])],2,83⟩)
   (λk=>ksa.length-k) 0 [(0,0),(1,1)] ⟨sq,sq,sq⟩
   (aK _ rfl ⟨aI 1 (.cons (bT _) .nil),aI 0 (.cons (bT _) .nil),trivial⟩ ⟨aN,aN,aP (.int _ _),trivial⟩) ?_
  rintro k ⟨h4,h5,h6⟩
  conv=>whnf
  refine aL (λh7=>?_) (λh7=>?_)
  .have hk:k<ksa.length:=by rw[aB] at h7;simpa using h7
   rw[h7]
   conv=>whnf
   refine aL (λh8=>?_) (λh8=>?_)
   .have hk2:k<ksb.length:=by rw[aB] at h8;simpa using h8
    conv=>whnf
    have e1:=uW hk;have e2:=uW hk2;obtain⟨⟨k1,n1,s1,ks1⟩,hv1⟩:∃v,v=ksa[k]:=⟨_,rfl⟩
    obtain⟨⟨k2,n2,s2,ks2⟩,hv2⟩:∃v,v=ksb[k]:=⟨_,rfl⟩
    rw[<-hv1] at e1;rw[<-hv2] at e2;refine aC e1 ?_
    conv=>whnf
    refine aC e2 ?_
    conv=>whnf
    have hm1:bD.mk k1 n1 s1 ks1∈ksa:=by rw[hv1];exact ZW hk
    have hm2:bD.mk k2 n2 s2 ks2∈ksb:=by rw[hv2];exact ZW hk2
    have hs:=FU hk hk2;rw[<-hv1,<-hv2] at hs;refine(hkids _ hm1 _ hm2).use bJ (.cons (bT _) (.cons (bT _) .nil)) (.int _ _) ?_
    conv=>whnf
    refine aL (λh9=>?_) (λh9=>?_)
    .have h9:cN (.mk k1 n1 s1 ks1) (.mk k2 n2 s2 ks2)≠0:=su h9
     conv=>whnf
     refine aA (.int _ _) ⟨?_,rfl,rfl⟩;rw[hcmp,h6,hs,andThen,Yz h9]
    .have h9:cN (.mk k1 n1 s1 ks1) (.mk k2 n2 s2 ks2)=0:=su h9
     conv=>whnf
     refine .mk (k+1) [(0,0),(1,1)] ⟨om,om,by rw[h6,hs,andThen,Y4 h9]⟩ (aK _ rfl ⟨aI 1 (.cons (bT _) .nil),aI 0 (.cons (bT _) .nil),trivial⟩ ⟨aN,aN,⟨_,rfl,.eq (.int _ _) ?_⟩,trivial⟩) om;rw[bS oq];rfl
   .have hk2:k=ksb.length:=by rw[aB] at h8;simp at h8;omega
    conv=>whnf
    refine aL (λh9=>?_) (λh9=>?_)
    .exfalso;rw[aB,aB] at h9;simp at h9;omega
    .conv=>whnf
     refine(JJ _).use bJ (.cons (.bool _) .nil) (.int _ _) ?_
     conv=>whnf
     refine aA (.int _ _) ⟨?_,rfl,rfl⟩;rw[hcmp,h6,Z7 (l:=ksb) om,List.drop_eq_getElem_cons hk,gJ,aB,aB,Yz (by simp;omega)]
  .have hk:k=ksa.length:=by rw[aB] at h7;simp at h7;omega
   have hd:ksa.drop k=[]:=Z7 om;rw[h7]
   conv=>whnf
   refine aL (λh9=>?_) (λh9=>?_)
   .have h9:ksa.length=ksb.length:=by rw[aB,aB] at h9;simp at h9;omega
    conv=>whnf
    refine aA (.int _ _) ⟨?_,rfl,rfl⟩;rw[hcmp,h6,hd,Z7 om,gJ]
   .have h9:ksa.length≠ksb.length:=by rw[aB,aB] at h9;simp at h9;omega
    conv=>whnf
    refine(JJ _).use bJ (.cons (.bool _) .nil) (.int _ _) ?_
    conv=>whnf
    refine aA (.int _ _) ⟨?_,rfl,rfl⟩;rw[hcmp,h6,hd,List.drop_eq_getElem_cons (show k<ksb.length by omega),gJ,aB,aB,Y4 (by simp;omega)]
 termination_by a=>SizeOf.sizeOf a
 decreasing_by simp;have:=aAw hm;omega
theorem E5{l:List bD}{k:Nat}{v a:bD}(h:l[k]? = some a):EM l k v=(cN a v == 0):=by simp[EM,h]
theorem Fx{l:List bD}{k:Nat}{v:bD}(h:l.length<=k):EM l k v=false:=by simp[EM,ZH h]
theorem Vj(l:List bD)(v:bD)(hl:l.length<=4294967296)(hok:∀a∈l,iG a) :
  aX prog [] 166 [.il 4 (aR l),bY v] (.tup [.int .i64 (cE l v).1,.bool (cE l v).2]):=by
 obtain⟨vk,vn,vs,vks⟩:=v;have nl:NN (.il 4 (aR l)):=.il' (aW l);have nt:∀(k:Int) (b:Bool),NN (.tup [.int .i64 k,.bool b]):=λk b=>.tup' (.cons (.int _ _) (.cons (.bool _) .nil))
 refine fG bJ func166 rfl ?_
 conv=>whnf
 refine eH.loopAt bJ (λk:Nat=>k<=l.length/\∀p a,p<k->l[p]? = some a->cN a (.mk vk vn vs vks)<0)
  (λk=>⟨[(0,.il 4 (aR l)),(3,.ptr 0 0 0),(6,.int .i64 k)],[(0,.row 50 4 [bY (.mk vk vn vs vks)])],1,27⟩)
  (λk=>l.length-k) 0 [(0,0)] ⟨sq,sq⟩
  (aK _ rfl ⟨aI 0 (.cons (bT _) .nil),trivial⟩ ⟨aP nl,aN,aP (.int _ _),trivial⟩) ?_
 rintro k ⟨h1,h2⟩
 conv=>whnf
 refine aL (λh=>?_) (λh=>?_)
 .have hk:k<l.length:=by rw[aB] at h;simpa using h
  have e:=uW hk;obtain⟨⟨ak,an,az,aks⟩,hv⟩:∃a,a=l[k]:=⟨_,rfl⟩
  rw[<-hv] at e;have hm:bD.mk ak an az aks∈l:=by rw[hv];exact ZW hk
  have hg:l[k]? = some (bD.mk ak an az aks):=by rw[hv];exact Yw hk
  conv=>whnf
  refine aC e ?_
  conv=>whnf
  refine(vF (.mk ak an az aks) (.mk vk vn vs vks) (hok _ hm)).use bJ (.cons (bT _) (.cons (bT _) .nil)) (.int _ _) ?_
  conv=>whnf
  refine aL (λh3=>?_) (λh3=>?_)
  .have h3:0<=cN (.mk ak an az aks) (.mk vk vn vs vks):=su h3
   conv=>whnf
   refine aA (nt _ _) ⟨?_,rfl,rfl⟩;rw[rE h1 h2 (λa ha=>by rw[hg] at ha;cases ha;exact h3),E5 hg]
  .have h3:cN (.mk ak an az aks) (.mk vk vn vs vks)<0:=su h3
   conv=>whnf
   refine .mk (k+1) [(0,0)] ⟨om,λp a hp ha=>?_⟩ (aK _ rfl ⟨aI 0 (.cons (bT _) .nil),trivial⟩ ⟨aP nl,aN,⟨_,rfl,.eq (.int _ _) ?_⟩,trivial⟩) om
   .rcases ZG p k with hp'|hp'
    .exact h2 p a hp' ha
    .have:p=k:=om;subst this;rw[hg] at ha;cases ha;exact h3
   .rw[bS oq];rfl
 .have hk:k=l.length:=by rw[aB] at h;simp at h;omega
  conv=>whnf
  refine aA (nt _ _) ⟨?_,rfl,rfl⟩;rw[rE h1 h2 (λa ha=>by rw[ZH om] at ha;cases ha),Fx om,aB,hk]
theorem Qv(l:List bD)(v:bD)(hl:l.length<=4294967296)(hok:∀a∈l,iG a)(hs:lK l) :
  aX prog [] 239 [.il 4 (aR l),bY v,.fn (.func 104) [] []] (.tup [.int .i64 (cE l v).1,.bool (cE l v).2]):=by
 obtain⟨vk,vn,vs,vks⟩:=v;have nl:NN (.il 4 (aR l)):=.il' (aW l);have nf:NN (.fn (.func 104) [] []):=.fn _ _ _ sq sq;have nt:∀(k:Int) (b:Bool),NN (.tup [.int .i64 k,.bool b]):=λk b=>.tup' (.cons (.int _ _) (.cons (.bool _) .nil))
 refine fG bJ func239 rfl ?_
 conv=>whnf
 refine eH.loopAt bJ (λx:Nat × Nat=>x.1<=x.2/\x.2<=l.length/\(∀p a,p<x.1->l[p]? = some a->cN a (.mk vk vn vs vks)<0)/\∀a,l[x.2]? = some a->0<=cN a (.mk vk vn vs vks))
  (λx=>⟨[(0,.il 4 (aR l)),(2,.fn (.func 104) [] []),(4,.ptr 0 0 0),(8,.int .i64 (aR l).length),(9,.int .i64 x.1),(10,.int .i64 x.2)],[(0,.row 50 4 [bY (.mk vk vn vs vks)])],1,49⟩)
  (λx=>x.2-x.1) (0,l.length) [(0,0)] ⟨sq,sq,sq,λa ha=>by simp at ha⟩
  (aK _ rfl ⟨aI 0 (.cons (bT _) .nil),trivial⟩ ⟨aP nl,aP nf,aN,aP (.int _ _),aP (.int _ _),⟨_,rfl,.eq (.int _ _) (by rw[aB])⟩,trivial⟩) ?_
 rintro⟨i,j⟩ ⟨h1,h2,h3,h4⟩
 dsimp only at h1 h2 h3 h4 |-
 conv=>whnf
 refine aL (λh=>?_) (λh=>?_)
 .have hij:i<j:=su h
  have hw1:IntKind.i64.wrap ((i:Int)+j)=((i+j:Nat):Int):=bS oq;have hw2:IntKind.u64.wrap ((i+j:Nat):Int)=((i+j:Nat):Int):=IntWalk.u64_in _ oq;have hw3:((i+j:Nat):Int).fdiv (2 ^ min (Int.toNat 1) IntKind.u64.bits)=(((i+j)/2:Nat):Int):=by
   rw[show (2:Int) ^ min (Int.toNat 1) IntKind.u64.bits=2 from rfl,aB1 _ om];omega
  have hw4:IntKind.i64.wrap (((i+j)/2:Nat):Int)=(((i+j)/2:Nat):Int):=bS oq;generalize hm:(i+j)/2=m at *;have hm1:i<=m:=om;have hm2:m<j:=om;have hk:m<l.length:=om;have e:=uW hk;obtain⟨⟨ak,an,az,aks⟩,hv⟩:∃a,a=l[m]:=⟨_,rfl⟩
  rw[<-hv] at e;have hmem:bD.mk ak an az aks∈l:=by rw[hv];exact ZW hk
  have hg:l[m]? = some (bD.mk ak an az aks):=by rw[hv];exact Yw hk
  conv=>whnf
  rw[hw1,hw2,hw3,hw4]
  conv=>whnf
  refine aC e ?_
  conv=>whnf
  refine(oE (.mk ak an az aks) (.mk vk vn vs vks) (hok _ hmem)).use bJ (.cons (bT _) (.cons (bT _) .nil)) (.int _ _) ?_
  conv=>whnf
  refine aL (λh5=>?_) (λh5=>?_)
  .have h5:cN (.mk ak an az aks) (.mk vk vn vs vks)<0:=su h5
   conv=>whnf
   refine .mk (m+1,j) [(0,0)] ⟨by simp only;omega,h2,λp a hp ha=>?_,h4⟩ (aK _ rfl ⟨aI 0 (.cons (bT _) .nil),trivial⟩ ⟨aP nl,aP nf,aN,aP (.int _ _),⟨_,rfl,.eq (.int _ _) ?_⟩,aP (.int _ _),trivial⟩) (by simp only;omega)
   .simp only at hp;rcases ZG p m with hp'|hp'
    .exact WZ (by have:=hs.get hp' ha hg;omega) h5
    .have:p=m:=om;subst this;rw[hg] at ha;cases ha;exact h5
   .rw[bS oq];rfl
  .have h5:0<=cN (.mk ak an az aks) (.mk vk vn vs vks):=su h5
   conv=>whnf
   exact .mk (i,m) [(0,0)] ⟨hm1,by simp only;omega,h3,λa ha=>by rw[hg] at ha;cases ha;exact h5⟩ (aK _ rfl ⟨aI 0 (.cons (bT _) .nil),trivial⟩ ⟨aP nl,aP nf,aN,aP (.int _ _),aP (.int _ _),aP (.int _ _),trivial⟩) (by simp only;omega)
 .have hij:i=j:=by simp at h;omega
  subst hij;have hf:=rE h2 h3 h4
  conv=>whnf
  refine aL (λh5=>?_) (λh5=>?_)
  .have hk:i<l.length:=by rw[aB] at h5;simpa using h5
   have e:=uW hk;obtain⟨⟨ak,an,az,aks⟩,hv⟩:∃a,a=l[i]:=⟨_,rfl⟩
   rw[<-hv] at e;have hmem:bD.mk ak an az aks∈l:=by rw[hv];exact ZW hk
   have hg:l[i]? = some (bD.mk ak an az aks):=by rw[hv];exact Yw hk
   rw[h5]
   conv=>whnf
   refine aC e ?_
   conv=>whnf
   refine(oE (.mk ak an az aks) (.mk vk vn vs vks) (hok _ hmem)).use bJ (.cons (bT _) (.cons (bT _) .nil)) (.int _ _) ?_
   conv=>whnf
   refine aA (nt _ _) ⟨?_,rfl,rfl⟩;rw[hf,E5 hg]
  .have hk:l.length<=i:=by rw[aB] at h5;simpa using h5
   rw[h5]
   conv=>whnf
   refine aA (nt _ _) ⟨?_,rfl,rfl⟩;rw[hf,Fx hk]
theorem TL(l:List bD)(v:bD)(hl:l.length<=4294967296)(hok:∀a∈l,iG a)(hs:lK l) :
  aX prog [] 196 [.il 4 (aR l),bY v] (.tup [.int .i64 (cE l v).1,.bool (cE l v).2]):=by
 obtain⟨vk,vn,vs,vks⟩:=v;have nl:NN (.il 4 (aR l)):=.il' (aW l);have nf:NN (.fn (.func 104) [] []):=.fn _ _ _ sq sq;have nt:∀(k:Int) (b:Bool),NN (.tup [.int .i64 k,.bool b]):=λk b=>.tup' (.cons (.int _ _) (.cons (.bool _) .nil))
 refine fG bJ func196 rfl ?_
 conv=>whnf
 refine(Qv l (.mk vk vn vs vks) hl hok hs).use bJ (.cons nl (.cons (bT _) (.cons nf .nil))) (nt _ _) ?_
 conv=>whnf
 exact aA (nt _ _) ⟨rfl,rfl,rfl⟩
theorem qB{l:List Int}{k:Nat}(h:k<l.length):(aV l)[(k:Int).toNat]? = some (.int .i64 l[k]):=by
 rw[Yy,bK,Yw h];rfl
theorem BN{mem:aQ}{id len:Nat}{t:TypeId}{sz:Nat}{xs ys:List AV}(h1:lk mem id=some (.row t sz xs))(e:len=xs.length)(h:xs=ys)(h5:jU ys):Cv mem [] (.sl id 0 len) (.il sz ys):=by
 subst h e;exact .fz' (id:=id) h1 rfl om (by rw[ZU];exact Y9 om) h5
def Xi(A:List Nd):AV:=.agg [.ip (.agg [.il 12 (bC A)]),.il 1 (aV (a8 A)),.il 4 (aR (cZ A))]
def wk(A:List Nd):AV:=.ip (Xi A)
theorem VM(A:List Nd):NN (Xi A):=.agg' (.cons (.ip' (.agg' (.cons (.il' (bA A)) .nil))) (.cons (.il' (aT _)) (.cons (.il' (aW _)) .nil)))
theorem g5(A:List Nd):NN (wk A):=.ip' (VM A)
theorem Ly{A:List Nd}{i:Nat}(hi:i<A.length):(aV (a8 A))[((i:Nat):Int).toNat]? = some (.int .i64 (eJ (a8 A) i)):=by
 have h:i<(a8 A).length:=by rw[fV];exact hi
 rw[Yy,bK,Yw h];unfold eJ;rw[Yy,Yx,Yw h];rfl
theorem Ll{A:List Nd}{i:Nat}(hi:i<A.length):(aR (cZ A))[((i:Nat):Int).toNat]? = some (bY (EL (cZ A) i)):=by
 have h:i<(cZ A).length:=by rw[jK];exact hi
 rw[Yy,i6,Yw h];unfold EL;rw[Yx,Yw h];rfl
theorem q9{A:List Nd}{i:Nat}(hi:i<A.length):(bC A)[((i:Nat):Int).toNat]? = some (cK (aD A i)):=by
 rw[Yy,i7,cG hi];rfl
theorem Id{A:List Nd}{i:Nat}(hi:i<A.length):aX prog [] 135 [wk A,.int .i64 i] (.int .i64 (eJ (a8 A) i)):=by
 have e:=Ly hi;refine aG bJ func135 rfl ?_;refine Z ?_;refine aC e ?_;refine Z ?_;exact aA nn ⟨rfl,rfl,rfl⟩
theorem Tm{A:List Nd}{i:Nat}(hi:i<A.length):aX prog [] 136 [wk A,.int .i64 i] (bY (EL (cZ A) i)):=by
 have e:=Ll hi;generalize EL (cZ A) i=v at *;obtain⟨v1,v2,v3,v4⟩:=v;refine aG bJ func136 rfl ?_;refine Z ?_;refine aC e ?_;refine Z ?_;exact aA nn ⟨rfl,rfl,rfl⟩
theorem V8{A:List Nd}(hp:0<A.length)(hl:A.length<=100000):aX prog [] 26 [wk A] (.int .i64 ((A.length-1:Nat):Int)):=by
 have hw:IntKind.i64.wrap (((bC A).length:Int)-1)=((A.length-1:Nat):Int):=by rw[bW,bS oq];omega
 refine aG bJ func26 rfl ?_;refine Z ?_;exact cW (.int hw) ⟨rfl,rfl,rfl⟩
theorem Il(x:Nd)(h:x.kind=1->eD x=true):aX prog [] 71 [.ip (cK x)] (.int .i64 (fA x)):=by
 have hr:x.kind=1->x.lo<=x.hi/\x.hi<x.lo+1099511627776:=λe=>⟨(cQ (h e)).1,(cQ (h e)).2.2.2⟩
 have ho:fA x=if x.kind=1 then x.hi-x.lo+1 else x.kids.length:=rfl
 clear h;obtain⟨kind,name,lo,hi,ws,ls,vals,kids,⟨vk,vn,vs,vks⟩⟩:=x;simp only at hr ho;generalize fA ⟨kind,name,lo,hi,ws,ls,vals,kids,.mk vk vn vs vks⟩=o at *;refine aG bJ func71 rfl ?_;refine Z ?_;refine aL (λh=>?_) (λh=>?_)
 .have h1:kind=1:=su h
  obtain⟨r1,r2⟩:=hr h1;rw[Y4 h1] at ho;have hw:IntKind.i64.wrap (hi-lo)=hi-lo:=bS oq;have hw2:IntKind.i64.wrap (hi-lo+1)=o:=by rw[bS oq,ho]
  refine Rt ?_;rw[hw,hw2];exact aA nn ⟨rfl,rfl,rfl⟩
 .have h1:¬kind=1:=su h
  rw[Yz h1] at ho;refine Z ?_;exact cW (.int (by rw[ho,aH])) ⟨rfl,rfl,rfl⟩
theorem TW(x:Nd)(v:bD)(hl:x.values.length<=4294967296)(hok:∀a∈x.values,iG a)(hs:lK x.values):aX prog [] 127 [.ip (cK x),bY v] (.int .i64 (((cE x.values v).1+1:Nat):Int)):=by
 have hf:=TL x.values v hl hok hs;have hle:=rQ x.values v;obtain⟨kind,name,lo,hi,ws,ls,vals,kids,⟨vk,vn,vs,vks⟩⟩:=x;simp only at hf hle hl |-;generalize (cE vals v).1=k at *;generalize (cE vals v).2=b at *;obtain⟨v1,v2,v3,v4⟩:=v;refine aG bJ func127 rfl ?_;refine Z ?_;refine hf.go ?_;refine Rt ?_;exact cW (.w64 om oq) ⟨rfl,rfl,rfl⟩
theorem QK:∀v:bD,bN v<=1099511627776->aX prog [] 121 [bY v] (.int .i64 (bN v))
 | .mk vk vn vs ks,hs=>by
  have hs':cY ks+1<=1099511627776:=by simp only[bN] at hs;omega
  have ih:∀a∈ks,aX prog [] 121 [bY a] (.int .i64 (bN a)):=λa hm=>QK a (by have:=Fq hm;omega)
  have hl:=A5 ks;refine aG bJ func121 rfl ?_;refine Z ?_;refine bI.at bJ (λk:Nat=>k<=ks.length)
   (λk=>⟨[(1,.ptr 0 0 0),(3,.int .i64 (1+cY (ks.take k):Nat)),(4,.int .i64 k)],[(0,.row 50 4 [bY (.mk vk vn vs ks)])],1,21⟩)
   (λk=>ks.length-k) 0 [(0,0)] sq
   (aK _ rfl ⟨aI 0 dN,trivial⟩ ⟨aN,aF,aF,trivial⟩) ?_
  intro k hk;refine Z ?_;refine aL (λh=>?_) (λh=>?_)
  .have hlt:=MX h;obtain⟨a,b,c,d,hm,hg,he,e1⟩:=dE hlt;have hsz:=yW hlt;have hle:=qR ks (k+1);rw[he] at hsz;refine Z ?_;refine aC e1 ?_;refine Z ?_;refine(ih _ hm).go ?_;refine Z ?_;exact .mk (k+1) [(0,0)] om (aK _ rfl ⟨aI 0 dN,trivial⟩ ⟨aN,⟨_,rfl,.w64 om oq⟩,⟨_,rfl,.w64 om oq⟩,trivial⟩) om
  .have hk':k=ks.length:=by have:=NQ h;omega
   refine Z ?_;refine aA nn ⟨?_,rfl,rfl⟩;rw[hk',ZJ,bN]
 termination_by v=>SizeOf.sizeOf v
 decreasing_by simp;have:=aAw hm;omega
theorem Qw(c:Int):aX prog [] 257 [.int .u8 c] (.bool (xB c)):=by
 refine aG bJ func257 rfl ?_;refine Z ?_;repeat' (refine aL (λh=>?_) (λh=>?_)<;>((try rw[h]);refine Z ?_))
 all_goals
  refine aA nn ⟨?_,rfl,rfl⟩;congr 1;rw[Ze];simp[xB] at *;try omega
theorem On(s:List UInt8)(hs:s.length<=4294967296):aX prog [] 234 [.str s] (.bool (fO s)):=by
  refine aG bJ func234 rfl ?_;refine Z ?_;refine aL (λh=>?_) (λh=>?_)
  · rw[h]
    refine Z ?_;refine aA nn ⟨?_,rfl,rfl⟩;rw[vV (by simp at h;omega)]
  have h1:1<=s.length:=by simp at h;omega
  rw[h];refine Z ?_;refine aL (λh=>?_) (λh=>?_)
  · rw[h]
    refine Z ?_;refine aA nn ⟨?_,rfl,rfl⟩;rw[tN (by simp at h;omega)]
  have h2:s.length<=16:=by simp at h;omega
  rw[h];obtain⟨a,ha⟩:∃a,s[0]? = some a:=⟨s[0],sq⟩
  refine Z ?_;refine aC ha ?_;refine Z ?_;refine aL (λh=>?_) (λh=>?_)
  · rw[h]
    refine Z ?_;refine aA nn ⟨?_,rfl,rfl⟩;rw[kW ha (by simp[upper] at *;omega)]
  have h3:65<=(a.toNat:Int):=su h
  rw[h];refine Z ?_;refine aC ha ?_;refine Z ?_;refine aL (λh=>?_) (λh=>?_)
  · refine Z ?_
    refine aA nn ⟨?_,rfl,rfl⟩;rw[kW ha (by simp[upper] at *;omega)]
  have h4:(a.toNat:Int)<=90:=su h
  refine Z ?_;refine bI.at bJ (λi:Nat=>i<=s.length/\∀j c,j<i->s[j]? = some c->xB c.toNat=true)
    (λi=>⟨[(0,.str s),(3,.int .i64 i)],[],0,64⟩) (λi=>s.length-i) 0 [] ⟨sq,sq⟩
    (bX ⟨aF,aF,trivial⟩) ?_
  rintro i ⟨hi,hall⟩;refine Z ?_;refine aL (λh=>?_) (λh=>?_)
  · have hlt:i<s.length:=su h
    obtain⟨c,hc⟩:∃c,s[i]? = some c:=⟨s[i],by simp[hlt]⟩
    have hc':s[(i:Int).toNat]? = some c:=by rw[Yy];exact hc
    refine Z ?_;refine aC hc' ?_;refine Z ?_;repeat' (refine aL (λh=>?_) (λh=>?_)<;>((try rw[h]);refine Z ?_))
    all_goals first
      | (refine aA nn ⟨?_,rfl,rfl⟩
         rw[yF hc (by rw[aAC];simp[xB] at *;omega)])
      | (refine .mk (i+1) [] ⟨om,λj c2 hj hc2=>?_⟩ (bX ⟨aF,⟨_,rfl,.w64 om oq⟩,trivial⟩) om
         rcases ZG j i with hj'|hj'
         · exact hall j c2 hj' hc2
         · have hji:j=i:=om
           rw[hji,hc] at hc2;cases hc2;simp[xB] at *;omega)
  · refine Z ?_
    refine aA nn ⟨?_,rfl,rfl⟩;have hk:i=s.length:=by simp at h;omega
    rw[y8 ha h2 (by simp[upper];omega) λj c hc=>hall j c (by rw[hk];exact(Y0.1 hc).1) hc]
theorem PT(s:List UInt8)(hs:s.length<=4294967296):aX prog [] 236 [.str s] (.bool (fO s)):=by
 refine aG bJ func236 rfl ?_;refine Z ?_;refine aL (λh=>?_) (λh=>?_)
 .rw[h];refine Z ?_;refine aA nn ⟨?_,rfl,rfl⟩;rw[vV (by simp at h;rw[h];simp)]
 have h1:1<=s.length:=by
  rcases ZC s.length with h'|h'
  .rw[ZB h'] at h;simp at h
  .exact h'
 rw[h];refine Z ?_;refine aL (λh=>?_) (λh=>?_)
 .rw[h];refine Z ?_;refine aA nn ⟨?_,rfl,rfl⟩;rw[tN (by simp at h;omega)]
 have h2:s.length<=16:=by simp at h;omega
 rw[h];obtain⟨a,ha⟩:∃a,s[0]? = some a:=⟨s[0],sq⟩
 refine Z ?_;refine aC ha ?_;refine Z ?_;refine aL (λh=>?_) (λh=>?_)
 .rw[h];refine Z ?_;refine aA nn ⟨?_,rfl,rfl⟩;rw[kW ha (by simp[upper] at *;omega)]
 have h3:65<=(a.toNat:Int):=su h
 rw[h];refine Z ?_;refine aC ha ?_;refine Z ?_;refine aL (λh=>?_) (λh=>?_)
 .refine Z ?_;refine aA nn ⟨?_,rfl,rfl⟩;rw[kW ha (by simp[upper] at *;omega)]
 have h4:(a.toNat:Int)<=90:=su h
 have hua:upper a.toNat=true:=by simp[upper];omega
 refine Z ?_;refine bI.at bJ (λi:Nat=>1<=i/\i<=s.length/\∀j c,j<i->s[j]? = some c->xB c.toNat=true)
  (λi=>⟨[(0,.str s),(3,.int .i64 i)],[],0,32⟩) (λi=>s.length-i) 1 [] ⟨sq,h1,λj c hj hc=>by rw[show j=0 by omega,ha] at hc;cases hc;exact IV hua⟩
  (bX ⟨aF,aF,trivial⟩) ?_
 rintro i ⟨h0,hi,hall⟩;refine Z ?_;refine aL (λh=>?_) (λh=>?_)
 .have hlt:i<s.length:=su h
  obtain⟨c,hc⟩:∃c,s[i]? = some c:=⟨s[i],by simp[hlt]⟩
  have hc':s[(i:Int).toNat]? = some c:=by rw[Yy];exact hc
  refine Z ?_;refine aC hc' ?_;refine Z ?_;refine(Qw c.toNat).go ?_;refine Z ?_;cases hb:xB c.toNat with
  | false=>
   refine Z ?_;refine aA nn ⟨?_,rfl,rfl⟩;rw[yF hc hb]
  | true=>
   refine Z ?_;refine .mk (i+1) [] ⟨om,om,λj c2 hj hc2=>?_⟩ (bX ⟨aF,⟨_,rfl,.w64 om oq⟩,trivial⟩) om;rcases ZG j i with hj'|hj'
   .exact hall j c2 hj' hc2
   .have hji:j=i:=om;rw[hji,hc] at hc2;cases hc2;exact hb
 .refine Z ?_;refine aA nn ⟨?_,rfl,rfl⟩;have hk:i=s.length:=by simp at h;omega
  rw[y8 ha h2 hua λj c hc=>hall j c (by rw[hk];exact(Y0.1 hc).1) hc]
theorem Sn(vk vn:Int)(vs:List UInt8)(ks:List bD)(hs:vs.length<=4294967296):aX prog [] 192 [bY (.mk vk vn vs ks)] (.bool (dJ vk vn vs ks.length)):=by
 refine aG bJ func192 rfl ?_;refine Z ?_;repeat' (first|(refine aL (λh=>?_) (λh=>?_)<;>((try rw[h]);refine Z ?_))|(refine(PT vs hs).go ?_;refine Z ?_))
 all_goals
  refine aA nn ⟨?_,rfl,rfl⟩;congr 1;rw[Ze];simp_all[dJ,aB,Zu,List.isEmpty_iff]
theorem Ws(vk vn:Int)(vs:List UInt8)(ks:List bD):aX prog [] 193 [bY (.mk vk vn vs ks)] (.bool (xE vk ks.length)):=by
 refine aG bJ func193 rfl ?_;refine Z ?_;repeat' (refine aL (λh=>?_) (λh=>?_)<;>((try rw[h]);refine Z ?_))
 all_goals
  refine aA nn ⟨?_,rfl,rfl⟩;congr 1;rw[Ze];simp[xE,aB] at *;try omega
theorem MB:∀v:bD,iG v->aX prog [] 188 [bY v] (.bool (cJ v))
  | .mk vk vn vs ks,hv=>by
    simp only[iG] at hv;obtain⟨hv1,hv2,hv3,hv4,hv5⟩:=hv;have ih:∀a∈ks,aX prog [] 188 [bY a] (.bool (cJ a)):=λa hm=>MB a (pW hv5 a hm)
    clear hv5;refine aG bJ func188 rfl ?_;refine Z ?_;refine(On vs hv3).go ?_;obtain⟨cb,hcb⟩:∃cb,cb=fO vs:=⟨_,rfl⟩
    rw[<-hcb];rcases(show vk=0\/vk=1\/vk=2\/vk=3\/(vk<0\/3<vk) by omega) with rfl|rfl|rfl|rfl|hk
    · refine Z ?_
      repeat' (refine aL (λh=>?_) (λh=>?_)<;>((try rw[h]);refine Z ?_))
      all_goals first
        | (refine aA nn ⟨?_,rfl,rfl⟩
           clear ih;have hf1:dJ 0 vn vs ks.length=false:=by
             rw[aAC];simp_all[dJ,aB,aAc];try omega
           rw[cJ,hf1];rfl)
        | (have hf1:dJ 0 vn vs ks.length=true:=by
             clear ih;simp_all[dJ,aB,aAc];try omega
           refine bI.at bJ (λk:Nat=>k<=ks.length/\Go.Ax.d9 (ks.take k)=true)
             (λk=>⟨[(1,.ptr 0 0 0),(4,.int .i64 k)],[(0,.row 50 4 [bY (.mk 0 vn vs ks)])],1,95⟩) (λk=>ks.length-k) 0 [(0,0)] ⟨sq,rfl⟩
             (aK _ rfl ⟨aI 0 dN,trivial⟩ ⟨aN,aF,trivial⟩) ?_
           rintro k ⟨hk,hall⟩;refine Z ?_;refine aL (λh=>?_) (λh=>?_)
           · have hlt:=MX h
             obtain⟨a,b,c,d,hm,hg,he,e1⟩:=dE hlt;have hih:=ih _ hm;obtain⟨fb,hfb⟩:∃fb,fb=cJ (.mk a b c d):=⟨_,rfl⟩
             rw[<-hfb] at hih;refine Z ?_;refine aC e1 ?_;refine Z ?_;refine hih.go ?_;cases fb with
             | false=>
               refine Z ?_;refine aA nn ⟨?_,rfl,rfl⟩;rw[cJ,nX hm hfb.symm,aBp]
             | true=>
               refine Z ?_;refine .mk (k+1) [(0,0)] ⟨om, ?_⟩ (aK _ rfl ⟨aI 0 dN,trivial⟩ ⟨aN,⟨_,rfl,.w64 om oq⟩,trivial⟩) om;rw[oS hlt,hall,he,<-hfb];rfl
           · have hk':k=ks.length:=by have:=NQ h;omega
             refine Z ?_;refine aA nn ⟨?_,rfl,rfl⟩;rw[hk',ZJ] at hall;rw[cJ,hf1,hall];rfl)
    · refine Z ?_
      repeat' (refine aL (λh=>?_) (λh=>?_)<;>((try rw[h]);refine Z ?_))
      all_goals first
        | (refine aA nn ⟨?_,rfl,rfl⟩
           clear ih;have hf1:dJ 1 vn vs ks.length=false:=by
             rw[aAC];simp_all[dJ,aB,aAc];try omega
           rw[cJ,hf1];rfl)
        | (have hf1:dJ 1 vn vs ks.length=true:=by
             clear ih;simp_all[dJ,aB,aAc];try omega
           refine bI.at bJ (λk:Nat=>k<=ks.length/\Go.Ax.d9 (ks.take k)=true)
             (λk=>⟨[(1,.ptr 0 0 0),(4,.int .i64 k)],[(0,.row 50 4 [bY (.mk 1 vn vs ks)])],1,95⟩) (λk=>ks.length-k) 0 [(0,0)] ⟨sq,rfl⟩
             (aK _ rfl ⟨aI 0 dN,trivial⟩ ⟨aN,aF,trivial⟩) ?_
           rintro k ⟨hk,hall⟩;refine Z ?_;refine aL (λh=>?_) (λh=>?_)
           · have hlt:=MX h
             obtain⟨a,b,c,d,hm,hg,he,e1⟩:=dE hlt;have hih:=ih _ hm;obtain⟨fb,hfb⟩:∃fb,fb=cJ (.mk a b c d):=⟨_,rfl⟩
             rw[<-hfb] at hih;refine Z ?_;refine aC e1 ?_;refine Z ?_;refine hih.go ?_;cases fb with
             | false=>
               refine Z ?_;refine aA nn ⟨?_,rfl,rfl⟩;rw[cJ,nX hm hfb.symm,aBp]
             | true=>
               refine Z ?_;refine .mk (k+1) [(0,0)] ⟨om, ?_⟩ (aK _ rfl ⟨aI 0 dN,trivial⟩ ⟨aN,⟨_,rfl,.w64 om oq⟩,trivial⟩) om;rw[oS hlt,hall,he,<-hfb];rfl
           · have hk':k=ks.length:=by have:=NQ h;omega
             refine Z ?_;refine aA nn ⟨?_,rfl,rfl⟩;rw[hk',ZJ] at hall;rw[cJ,hf1,hall];rfl)
    · refine Z ?_
      repeat' (refine aL (λh=>?_) (λh=>?_)<;>((try rw[h]);refine Z ?_))
      all_goals first
        | (refine aA nn ⟨?_,rfl,rfl⟩
           clear ih;have hf1:dJ 2 vn vs ks.length=false:=by
             rw[aAC];simp_all[dJ];try omega
           rw[cJ,hf1];rfl)
        | (have hf1:dJ 2 vn vs ks.length=true:=by
             clear ih;simp_all[dJ];try omega
           refine bI.at bJ (λk:Nat=>k<=ks.length/\Go.Ax.d9 (ks.take k)=true)
             (λk=>⟨[(1,.ptr 0 0 0),(4,.int .i64 k)],[(0,.row 50 4 [bY (.mk 2 vn vs ks)])],1,95⟩) (λk=>ks.length-k) 0 [(0,0)] ⟨sq,rfl⟩
             (aK _ rfl ⟨aI 0 dN,trivial⟩ ⟨aN,aF,trivial⟩) ?_
           rintro k ⟨hk,hall⟩;refine Z ?_;refine aL (λh=>?_) (λh=>?_)
           · have hlt:=MX h
             obtain⟨a,b,c,d,hm,hg,he,e1⟩:=dE hlt;have hih:=ih _ hm;obtain⟨fb,hfb⟩:∃fb,fb=cJ (.mk a b c d):=⟨_,rfl⟩
             rw[<-hfb] at hih;refine Z ?_;refine aC e1 ?_;refine Z ?_;refine hih.go ?_;cases fb with
             | false=>
               refine Z ?_;refine aA nn ⟨?_,rfl,rfl⟩;rw[cJ,nX hm hfb.symm,aBp]
             | true=>
               refine Z ?_;refine .mk (k+1) [(0,0)] ⟨om, ?_⟩ (aK _ rfl ⟨aI 0 dN,trivial⟩ ⟨aN,⟨_,rfl,.w64 om oq⟩,trivial⟩) om;rw[oS hlt,hall,he,<-hfb];rfl
           · have hk':k=ks.length:=by have:=NQ h;omega
             refine Z ?_;refine aA nn ⟨?_,rfl,rfl⟩;rw[hk',ZJ] at hall;rw[cJ,hf1,hall];rfl)
    · refine Z ?_
      repeat' (refine aL (λh=>?_) (λh=>?_)<;>((try rw[h]);refine Z ?_))
      all_goals first
        | (refine aA nn ⟨?_,rfl,rfl⟩
           clear ih;have hf1:dJ 3 vn vs ks.length=false:=by
             rw[aAC];simp_all[dJ];try omega
           rw[cJ,hf1];rfl)
        | (have hf1:dJ 3 vn vs ks.length=true:=by
             clear ih;simp_all[dJ];try omega
           refine bI.at bJ (λk:Nat=>k<=ks.length/\Go.Ax.d9 (ks.take k)=true)
             (λk=>⟨[(1,.ptr 0 0 0),(4,.int .i64 k)],[(0,.row 50 4 [bY (.mk 3 vn vs ks)])],1,95⟩) (λk=>ks.length-k) 0 [(0,0)] ⟨sq,rfl⟩
             (aK _ rfl ⟨aI 0 dN,trivial⟩ ⟨aN,aF,trivial⟩) ?_
           rintro k ⟨hk,hall⟩;refine Z ?_;refine aL (λh=>?_) (λh=>?_)
           · have hlt:=MX h
             obtain⟨a,b,c,d,hm,hg,he,e1⟩:=dE hlt;have hih:=ih _ hm;obtain⟨fb,hfb⟩:∃fb,fb=cJ (.mk a b c d):=⟨_,rfl⟩
             rw[<-hfb] at hih;refine Z ?_;refine aC e1 ?_;refine Z ?_;refine hih.go ?_;cases fb with
             | false=>
               refine Z ?_;refine aA nn ⟨?_,rfl,rfl⟩;rw[cJ,nX hm hfb.symm,aBp]
             | true=>
               refine Z ?_;refine .mk (k+1) [(0,0)] ⟨om, ?_⟩ (aK _ rfl ⟨aI 0 dN,trivial⟩ ⟨aN,⟨_,rfl,.w64 om oq⟩,trivial⟩) om;rw[oS hlt,hall,he,<-hfb];rfl
           · have hk':k=ks.length:=by have:=NQ h;omega
             refine Z ?_;refine aA nn ⟨?_,rfl,rfl⟩;rw[hk',ZJ] at hall;rw[cJ,hf1,hall];rfl)
    · have e0:(vk == 0)=false:=by simp;omega
      have e1:(vk == 1)=false:=by simp;omega
      have e2:(vk == 2)=false:=by simp;omega
      have e3:(vk == 3)=false:=by simp;omega
      have hf1:dJ vk vn vs ks.length=false:=by
        unfold dJ;rw[Yz om,Yz om,Yz om,Yz om]
      have hfin:AV.bool false=AV.bool (cJ (.mk vk vn vs ks)):=by rw[cJ,hf1];rfl
      refine Z ?_;repeat((first|rw[e0]|rw[e1]|rw[e2]|rw[e3]);refine Z ?_)
      refine aL (λh=>?_) (λh=>?_)
      · rw[h]
        refine Z ?_;exact aA nn ⟨hfin,rfl,rfl⟩
      · rw[h]
        refine Z ?_;refine aL (λh'=>?_) (λh'=>?_)
        · refine Z ?_
          exact aA nn ⟨hfin,rfl,rfl⟩
        · exfalso
          simp at h h';omega
  termination_by v=>SizeOf.sizeOf v
  decreasing_by simp;have:=aAw hm;omega
theorem TT:∀v:bD,iG v->aX prog [] 189 [bY v] (.bool (oK v))
  | .mk vk vn vs ks,hv=>by
    simp only[iG] at hv;obtain⟨hv1,hv2,hv3,hv4,hv5⟩:=hv;have ih:∀a∈ks,aX prog [] 189 [bY a] (.bool (oK a)):=λa hm=>TT a (pW hv5 a hm)
    clear hv5;refine aG bJ func189 rfl ?_;refine Z ?_;repeat' (refine aL (λh=>?_) (λh=>?_)<;>((try rw[h]);refine Z ?_))
    all_goals first
      | (refine aA nn ⟨?_,rfl,rfl⟩
         clear ih;have hf1:zG vk ks.length=true:=by
           simp[zG,aB] at *;omega
         rw[oK,hf1];rfl)
      | (have hf1:zG vk ks.length=false:=by
           clear ih;rw[aAC];simp[zG,aB] at *;omega
         refine bI.at bJ (λk:Nat=>k<=ks.length/\rS (ks.take k)=false)
           (λk=>⟨[(1,.ptr 0 0 0),(3,.int .i64 k)],[(0,.row 50 4 [bY (.mk vk vn vs ks)])],1,39⟩) (λk=>ks.length-k) 0 [(0,0)] ⟨sq,rfl⟩
           (aK _ rfl ⟨aI 0 dN,trivial⟩ ⟨aN,aF,trivial⟩) ?_
         rintro k ⟨hk,hall⟩;refine Z ?_;refine aL (λh=>?_) (λh=>?_)
         · have hlt:=MX h
           obtain⟨a,b,c,d,hm,hg,he,e1⟩:=dE hlt;have hih:=ih _ hm;obtain⟨fb,hfb⟩:∃fb,fb=oK (.mk a b c d):=⟨_,rfl⟩
           rw[<-hfb] at hih;refine Z ?_;refine aC e1 ?_;refine Z ?_;refine hih.go ?_;cases fb with
           | true=>
             refine Z ?_;refine aA nn ⟨?_,rfl,rfl⟩;rw[oK,E8 hm hfb.symm,Bool.or_true]
           | false=>
             refine Z ?_;refine .mk (k+1) [(0,0)] ⟨om, ?_⟩ (aK _ rfl ⟨aI 0 dN,trivial⟩ ⟨aN,⟨_,rfl,.w64 om oq⟩,trivial⟩) om;rw[Km hlt,hall,he,<-hfb];rfl
         · have hk':k=ks.length:=by have:=NQ h;omega
           refine Z ?_;refine aA nn ⟨?_,rfl,rfl⟩;rw[hk',ZJ] at hall;rw[oK,hf1,hall];rfl)
  termination_by v=>SizeOf.sizeOf v
  decreasing_by simp;have:=aAw hm;omega
theorem VV:∀v:bD,iG v->bN v<=1099511627776->aX prog [] 119 [bY v] (.int .i64 (gK v))
 | .mk vk vn vs ks,hv,hs=>by
  have h1:=MB _ hv;have h2:=TT _ hv;have h3:=QK _ hs;have hval:gK (.mk vk vn vs ks)=if cJ (.mk vk vn vs ks)=false then 1 else if oK (.mk vk vn vs ks)=true\/1024<bN (.mk vk vn vs ks) then 4 else 0:=rfl
  generalize cJ (.mk vk vn vs ks)=fb at h1 hval;generalize oK (.mk vk vn vs ks)=wb at h2 hval;generalize bN (.mk vk vn vs ks)=sz at h3 hval;generalize gK (.mk vk vn vs ks)=res at hval;refine aG bJ func119 rfl ?_;refine Z ?_;refine h1.go ?_;cases fb with
  | false=>
   refine Z ?_;refine aA nn ⟨?_,rfl,rfl⟩;rw[hval];rfl
  | true=>
   refine Z ?_;refine h2.go ?_;cases wb with
   | true=>
    refine Z ?_;refine aA nn ⟨?_,rfl,rfl⟩;rw[hval];simp
   | false=>
    refine Z ?_;refine h3.go ?_;refine Z ?_;refine aL (λh=>?_) (λh=>?_)
    .refine Z ?_;refine aA nn ⟨?_,rfl,rfl⟩;rw[hval,Yz sq,Y4 (by simp at h;omega)]
    .refine Z ?_;refine aA nn ⟨?_,rfl,rfl⟩;rw[hval,Yz sq,Yz (by simp at h;simp;omega)]
theorem Mg(n:Int):i64 (IntKind.i64.wrap n):=by
 rw[IntKind.wrap_i64];exact oq
theorem Sg(n most:Int)(hn:i64 n)(hm:1<=most):aX prog [] 54 [.int .i64 n,.int .i64 most] (.int .i64 (sA n most)):=by
 have hz:decide (most≠0)=true:=by simp;omega
 unfold i64 at hn;refine aG bJ func54 rfl ?_;refine Z ?_;refine aL (λh=>?_) (λh=>?_)
 .have h:n<0:=su h
  refine Z ?_;refine aO (by rw[ZN om];rfl) ?_;refine Z ?_;refine aA nn ⟨?_,rfl,rfl⟩;rw[sA,Y4 h,w64 (x:=n+1) (y:=n+1) rfl oq,w64 (x:=0-(n+1)) (y:=-(n+1)) om oq]
 .have h:¬n<0:=su h
  refine Z ?_;refine aO (by rw[ZN om];rfl) ?_;refine Z ?_;refine aA nn ⟨?_,rfl,rfl⟩;rw[sA,Yz h]
theorem Hg(l:List Int)(i most:Int)(hl:∀x∈l,i64 x)(hm:1<=most):aX prog [] 18 [.il 1 (aV l),.int .i64 i,.int .i64 most] (.int .i64 (mA l i most)):=by
 refine aG bJ func18 rfl ?_;refine Z ?_;refine aL (λh=>?_) (λh=>?_)
 .rw[h];refine Z ?_;refine aA nn ⟨?_,rfl,rfl⟩;rw[mA,Y4 (.inl (su h))]
 .have h0:0<=i:=su h
  rw[h];refine Z ?_;refine aL (λh=>?_) (λh=>?_)
  .refine Z ?_;refine aA nn ⟨?_,rfl,rfl⟩;rw[aH] at h;rw[mA,Y4 (.inr (su h))]
  .rw[aH] at h;have h1:i<l.length:=su h
   obtain⟨q,rfl⟩:=ZD h0;have hq:q<l.length:=om;refine Z ?_;refine aC (a:=.int .i64 l[q]) (by rw[Yy,bK,Yw hq];rfl) ?_;refine Z ?_;refine(Sg l[q] most (hl _ (ZW hq)) hm).go ?_;refine Z ?_;refine aA nn ⟨?_,rfl,rfl⟩;rw[mA,Yz om,Yy,Yx,Yw hq];rfl
theorem Nw(l:List Int)(i j:Int)(hl:∀x∈l,i64 x)(hi:1<=i)(hi':i<=1000)(hj:0<=j)(hj':j<=1000):aX prog [] 20 [.il 1 (aV l),.int .i64 i,.int .i64 j] (.int .i64 (kidI l i j)):=by
 have hp:=Hg l (3*i+j+2) 1000000 hl om;have hb:=lG (l:=l) (i:=3*i+j+2) (most:=1000000) om;have hk:kidI l i j=if (mA l (3*i+j+2) 1000000).tmod 3=0 then((mA l (3*i+j+2) 1000000).tdiv 3).tmod i else max 0 (i-1-((mA l (3*i+j+2) 1000000).tdiv 3).tmod 3):=rfl
 generalize mA l (3*i+j+2) 1000000=p at hp hb hk;rw[hk];have hd:0<=p.tdiv 3/\p.tdiv 3<=1000000:=by
  rw[aA2 hb.1];omega
 have hd3:0<=(p.tdiv 3).tmod 3/\(p.tdiv 3).tmod 3<3:=⟨aAR _ hd.1,aAz _ om⟩
 refine aG bJ func20 rfl ?_;refine Z ?_;rw[w64 (x:=3*i) (y:=3*i) rfl oq,w64 (x:=3*i+j) (y:=3*i+j) rfl oq,w64 (x:=3*i+j+2) (y:=3*i+j+2) rfl oq];refine hp.go ?_;refine Z ?_;refine aL (λh=>?_) (λh=>?_)
 .have h:p.tmod 3=0:=su h
  refine Z ?_;refine aO (by rw[ZN om];rfl) ?_;refine Z ?_;refine aA nn ⟨?_,rfl,rfl⟩;rw[Y4 h,w64 (x:=p.tdiv 3) (y:=p.tdiv 3) rfl oq]
 .have h:¬p.tmod 3=0:=su h
  refine Z ?_;refine aA nn ⟨?_,rfl,rfl⟩;rw[Yz h,w64 (x:=p.tdiv 3) (y:=p.tdiv 3) rfl oq,w64 (x:=i-1) (y:=i-1) rfl oq,w64 (x:=i-1-(p.tdiv 3).tmod 3) (y:=i-1-(p.tdiv 3).tmod 3) rfl oq];congr 1;simp;omega
theorem Ta(k:Int)(h0:0<=k)(h1:k<=1000000):aX prog [] 19 [.int .i64 k] (bY (xI k)):=by
 have hd:0<=k.tdiv 4/\k.tdiv 4<=1000000:=by
  rw[aA2 h0];omega
 have hm:0<=k.tmod 4/\k.tmod 4<4:=⟨aAR _ h0,aAz _ om⟩
 have h9:0<=(k.tdiv 4).tmod 9/\(k.tdiv 4).tmod 9<9:=⟨aAR _ hd.1,aAz _ om⟩
 have h3:0<=(k.tdiv 4).tmod 3/\(k.tdiv 4).tmod 3<3:=⟨aAR _ hd.1,aAz _ om⟩
 have hw:IntKind.i64.wrap (k.tdiv 4)=k.tdiv 4:=w64 rfl oq;have hv:xI k=if k.tmod 4=0 then .mk 0 ((k.tdiv 4).tmod 9-4) [] []
  else if k.tmod 4=1 then .mk 1 ((k.tdiv 4).tmod 2) [] []
  else if k.tmod 4=2 then .mk 3 0 (([[76,101,97,102],[82,101,100],[88]]:List (List UInt8)).getD ((k.tdiv 4).tmod 3).toNat []) []
  else .mk 2 0 [] [.mk 0 ((k.tdiv 4).tmod 3) [] []]:=rfl
 generalize xI k=v at hv;have hw9:IntKind.i64.wrap ((k.tdiv 4).tmod 9-4)=(k.tdiv 4).tmod 9-4:=w64 rfl oq;refine aG bJ func19 rfl ?_;rcases(show k.tmod 4=0\/k.tmod 4=1\/k.tmod 4=2\/k.tmod 4=3 by omega) with e|e|e|e
 .rw[Y4 e] at hv;refine Z ?_;rw[e];refine Z ?_;rw[hw,hw9];exact cW (.agg' (.s (.s (.s (.cons (.nil 4) .nil))))) ⟨by rw[hv];rfl,rfl,rfl⟩
 .rw[Yz om,Y4 e] at hv;refine Z ?_;rw[e];refine Z ?_;rw[hw];exact cW (.agg' (.s (.s (.s (.cons (.nil 4) .nil))))) ⟨by rw[hv];rfl,rfl,rfl⟩
 .rw[Yz om,Yz om,Y4 e] at hv;refine Z ?_;rw[e];refine Z ?_;rw[hw];rcases(show (k.tdiv 4).tmod 3=0\/(k.tdiv 4).tmod 3=1\/(k.tdiv 4).tmod 3=2 by omega) with e3|e3|e3
  all_goals
   rw[e3] at hv |-;refine Z ?_;exact cW (.agg' (.s (.s (.s (.cons (.nil 4) .nil))))) ⟨by rw[hv];rfl,rfl,rfl⟩
 .rw[Yz om,Yz om,Yz om] at hv;refine Z ?_;rw[e];refine Z ?_;rw[hw];exact cW (.agg' (.s (.s (.s (.cons (.fzR rfl rfl (.cons (xL _ _ _) .nil) rfl) .nil))))) ⟨by rw[hv];rfl,rfl,rfl⟩
end Go.Proofs.YthggfhnnkclooaaGreatDoor
