/- A part of the proof. -/
import Derived.Test.YtidjhgajglebnaaGreatDoorAx12
import Derived.Test.YtidjhgajglebnaaGreatDoorProg
import Derived.KernelRfl
import Derived.Shelf.Strings.Builder1
import Derived.Shelf.Strings.Builder2
import Derived.Shelf.Strings.BuilderF
import Derived.Shelf.Strconv.Itoa0
import Derived.Shelf.Strconv.Itoa1
import Derived.Shelf.LaysM
import Derived.Shelf.Strconv.Itoa2
import Derived.Shelf.Strconv.Itoa3
import Derived.Shelf.Strings.Prefix
import Derived.Shelf.Bits.Mul64
import Derived.Shelf.Strings.Repeat
set_option linter.unusedVariables false
set_option linter.unusedSimpArgs false
namespace Go.Proofs.YtidjhgajglebnaaGreatDoor
open Go Go.Ax Go.Proofs Tryz
set_option maxRecDepth 100000
set_option maxHeartbeats 16000000
theorem SK(x:Nd)(h:x.kind=1->dG x=true):aZ prog [] 80 [.ip (cN x)] (.int .i64 (Kw x)):=by
 have hr:x.kind=1->x.lo<=x.hi/\x.hi<x.lo+1099511627776:=fun e=>⟨(cT (h e)).1,(cT (h e)).2.2.2⟩
 have ho:Kw x=if x.kind=1 then x.hi-x.lo+1 else x.kids.length:=rfl
 clear h;obtain⟨kind,name,lo,hi,ws,ls,vals,kids,⟨vk,vn,vs,vks⟩⟩:=x;simp only at hr ho;generalize Kw ⟨kind,name,lo,hi,ws,ls,vals,kids,.mk vk vn vs vks⟩=o at *;refine aG bB func80 rfl ?_;refine Rr ?_;refine aD (fun h=>?_) (fun h=>?_)
 ·have h1:kind=1:=by simpa using h
  obtain⟨r1,r2⟩:=hr h1;rw[T7 h1] at ho;have hw:IntKind.i64.wrap (hi-lo)=hi-lo:=bE ⟨by omega,by omega⟩;have hw2:IntKind.i64.wrap (hi-lo+1)=o:=by rw[bE ⟨by omega,by omega⟩,ho]
  refine Rt ?_;rw[hw,hw2];exact aA nn ⟨rfl,rfl,rfl⟩
 ·have h1:¬kind=1:=by simpa using h
  rw[T5 h1] at ho;refine Rr ?_;exact gL (.int (by rw[ho,aH])) ⟨rfl,rfl,rfl⟩
theorem O8(x:Nd)(v:aT):aZ prog [] 133 [.ip (cN x),cK v] (.bool (mQ x v)):=by
 have nx:=aW x;obtain⟨k,n,s,ks⟩:=v;have hm:mQ x (.mk k n s ks)=(decide (ks.length=x.kids.length) && (if x.name=[] then decide (k=2) else decide (k=3) && decide (s=x.name))):=rfl;generalize mQ x (.mk k n s ks)=r at *;obtain⟨kind,name,lo,hi,ws,ls,vals,kids,⟨vk,vn,vs,vks⟩⟩:=x;simp only at hm;have d0:((((aS ks).length:Nat):Int) != (((bG kids).length:Nat):Int)) = !decide (ks.length=kids.length):=by
  rw[aB,aH,Ue];simp;omega
 refine aG bB func133 rfl ?_;refine Rt ?_;rw[d0];by_cases h0:ks.length=kids.length
 ·rw[UD h0] at hm ⊢;refine Rt ?_;refine aD (fun h=>?_) (fun h=>?_)
  ·have h1:name=[]:=by simpa using h
   rw[T7 h1] at hm;refine Rt ?_;exact gL (r':=.bool r) (.bool (by rw[hm,Ue];simp)) ⟨rfl,rfl,rfl⟩
  ·have h1:¬name=[]:=by simpa using h
   rw[T5 h1] at hm;refine Rt ?_;refine aD (fun h=>?_) (fun h=>?_)
   ·have h3:k=3:=by simpa using h
    refine Rs ?_;repeat(rw[h];refine Rt ?_)
    exact gL (r':=.bool r) (.bool (by rw[hm,Ue];simp[h3])) ⟨rfl,rfl,rfl⟩
   ·have h3:¬k=3:=by simpa using h
    refine Rs ?_;repeat(rw[h];refine Rt ?_)
    exact gL (r':=.bool r) (.bool (by rw[hm,Ue];simp[h3])) ⟨rfl,rfl,rfl⟩
 ·rw[UO h0] at hm ⊢;refine Rt ?_;exact gL (r':=.bool r) (.bool (by rw[hm];rfl)) ⟨rfl,rfl,rfl⟩
theorem LM(x:Int):aZ prog [] 224 [.int .i64 x] (.bool false):=by
 refine Go.Ax.f6 bB func224 rfl ?_
 conv=>whnf
 refine aA (.bool _) ⟨?_,rfl,rfl⟩;simp
theorem MW(x:List UInt8):aZ prog [] 225 [.str x] (.bool false):=by
 refine Go.Ax.f6 bB func225 rfl ?_
 conv=>whnf
 refine aA (.bool _) ⟨?_,rfl,rfl⟩;simp
theorem ME(x y:Int):aZ prog [] 176 [.int .i64 x,.int .i64 y] (.int .i64 (rH x y)):=by
 refine Go.Ax.f6 bB func176 rfl ?_
 conv=>whnf
 refine(LM x).use bB (.cons (.int _ _) .nil) (.bool _) ?_
 conv=>whnf
 refine(LM y).use bB (.cons (.int _ _) .nil) (.bool _) ?_
 conv=>whnf
 refine aD (fun h=>?_) (fun h=>?_)
 ·conv=>whnf
  refine aA (.int _ _) ⟨?_,rfl,rfl⟩;simp at h;simp[rH,h]
 conv=>whnf
 refine aD (fun h'=>?_) (fun h'=>?_)
 ·conv=>whnf
  refine aA (.int _ _) ⟨?_,rfl,rfl⟩;simp at h h';simp only[rH];rw[T5 (by omega),T7 (by omega)]
 ·conv=>whnf
  refine aA (.int _ _) ⟨?_,rfl,rfl⟩;simp at h h';simp only[rH];rw[T5 (by omega),T5 (by omega)]
theorem Qb(x y:List UInt8):aZ prog [] 177 [.str x,.str y] (.int .i64 (jF x y)):=by
 refine Go.Ax.f6 bB func177 rfl ?_
 conv=>whnf
 refine(MW x).use bB (.cons (.str _) .nil) (.bool _) ?_
 conv=>whnf
 refine(MW y).use bB (.cons (.str _) .nil) (.bool _) ?_
 conv=>whnf
 refine aD (fun h=>?_) (fun h=>?_)
 ·conv=>whnf
  refine aA (.int _ _) ⟨?_,rfl,rfl⟩;rw[Dw.1 h]
 conv=>whnf
 refine aD (fun h'=>?_) (fun h'=>?_)
 ·conv=>whnf
  refine aA (.int _ _) ⟨?_,rfl,rfl⟩;rw[Jn h h']
 ·conv=>whnf
  refine aA (.int _ _) ⟨?_,rfl,rfl⟩;rw[Kf h h']
theorem Oe(l1 l2:List aT)(hb:l1.length<=4294967296)(hc:∀a∈l1,∀b∈l2,aZ prog [] 106 [cK a,cK b] (.int .i64 (bR a b))) :
  aZ prog [] 178 [.il 4 (aS l1),.il 4 (aS l2),.fn (.func 106) [] []] (.int .i64 (fI l1 l2)):=by
 have n1:NN (.il 4 (aS l1)):=.il' (bC l1);have n2:NN (.il 4 (aS l2)):=.il' (bC l2);have n3:NN (.fn (.func 106) [] []):=.fn _ _ _ (by simp) (by simp);refine Go.Ax.f6 bB func178 rfl ?_
 conv=>whnf
 refine eD.loopAt bB (fun k:Nat=>k<=l1.length/\k<=l2.length/\fI l1 l2=fI (l1.drop k) (l2.drop k))
  (fun k=>⟨[(0,.il 4 (aS l1)),(1,.il 4 (aS l2)),(2,.fn (.func 106) [] []),(11,.il 4 (aS l1)),(12,.int .i64 (aS l1).length),(13,.int .i64 k)],[],0,39⟩)
  (fun k=>l1.length-k) 0 [] ⟨by simp,by simp,by simp⟩
  (bV ⟨aQ n1,aQ n2,aQ n3,aQ n1,aQ (.int _ _),aQ (.int _ _),trivial⟩) ?_
 rintro k ⟨h1,h2,h3⟩
 conv=>whnf
 refine aD (fun h=>?_) (fun h=>?_)
 ·have hk:k<l1.length:=by rw[aB] at h;simpa using h
  obtain⟨⟨ka,na,sa,ksa⟩,hv⟩:∃v,v=l1[k]:=⟨_,rfl⟩
  have hm:aT.mk ka na sa ksa∈l1:=by rw[hv];exact UW hk
  have e:(aS l1)[(k:Int).toNat]? = some (cK (.mk ka na sa ksa)):=by rw[T4,kE,Ty hk,hv];rfl
  conv=>whnf
  refine aC e ?_
  conv=>whnf
  refine aD (fun h'=>?_) (fun h'=>?_)
  ·have hk2:k=l2.length:=by rw[aB] at h';simp at h';omega
   conv=>whnf
   refine aA (.int _ _) ⟨?_,rfl,rfl⟩;rw[h3,U1 (l:=l2) (by omega),UU hk,fI]
  ·have hk2:k<l2.length:=by rw[aB] at h';simpa using h'
   obtain⟨⟨kb,nb,sb,ksb⟩,hv2⟩:∃v,v=l2[k]:=⟨_,rfl⟩
   have hm2:aT.mk kb nb sb ksb∈l2:=by rw[hv2];exact UW hk2
   have e2:(aS l2)[(k:Int).toNat]? = some (cK (.mk kb nb sb ksb)):=by rw[T4,kE,Ty hk2,hv2];rfl
   conv=>whnf
   refine aC e2 ?_
   conv=>whnf
   refine(hc _ hm _ hm2).use bB (.cons (dZ _) (.cons (dZ _) .nil)) (.int _ _) ?_
   conv=>whnf
   have hs:=Di hk hk2;rw[←hv,←hv2] at hs;refine aD (fun h4=>?_) (fun h4=>?_)
   ·conv=>whnf
    refine aA (.int _ _) ⟨?_,rfl,rfl⟩;have h4:bR (.mk ka na sa ksa) (.mk kb nb sb ksb)≠0:=by simpa using h4
    rw[h3,hs,andThen,T5 h4]
   ·have h4:bR (.mk ka na sa ksa) (.mk kb nb sb ksb)=0:=by simpa using h4
    conv=>whnf
    refine .mk (k+1) [] ⟨by omega,by omega, ?_⟩ (bV ⟨aQ n1,aQ n2,aQ n3,aQ n1,aQ (.int _ _),⟨_,rfl,.eq (.int _ _) ?_⟩,trivial⟩) (by omega)
    ·rw[h3,hs,andThen,T7 h4]
    ·rw[bE ⟨by omega,by omega⟩];rfl
 ·have hk:k=l1.length:=by rw[aB] at h;simp at h;omega
  have hd:l1.drop k=[]:=U1 (by omega)
  conv=>whnf
  refine aD (fun h'=>?_) (fun h'=>?_)
  ·have hk2:l1.length<l2.length:=by rw[aB,aB] at h';simpa using h'
   conv=>whnf
   refine aA (.int _ _) ⟨?_,rfl,rfl⟩;rw[h3,hd,UU (show k<l2.length by omega),fI]
  ·have hk2:l2.length<=l1.length:=by rw[aB,aB] at h';simpa using h'
   conv=>whnf
   refine aA (.int _ _) ⟨?_,rfl,rfl⟩;rw[h3,hd,U1 (by omega),fI]
theorem pD:∀(a b:aT),g5 a->aZ prog [] 106 [cK a,cK b] (.int .i64 (bR a b))
 | .mk ka na sa ksa,.mk kb nb sb ksb,ha=>by
  simp only[g5] at ha;have hkids:∀a∈ksa,∀b∈ksb,aZ prog [] 106 [cK a,cK b] (.int .i64 (bR a b)):=fun a hm b _=>pD a b (jC ha.2.2.2.2 a hm)
  refine Go.Ax.f6 bB func106 rfl ?_
  conv=>whnf
  refine(ME ka kb).use bB (.cons (.int _ _) (.cons (.int _ _) .nil)) (.int _ _) ?_
  conv=>whnf
  refine aD (fun h=>?_) (fun h=>?_)
  ·conv=>whnf
   refine aA (.int _ _) ⟨?_,rfl,rfl⟩;have h:rH ka kb≠0:=by simpa using h
   rw[bR,andThen,T5 h]
  have h:rH ka kb=0:=by simpa using h
  conv=>whnf
  refine(ME na nb).use bB (.cons (.int _ _) (.cons (.int _ _) .nil)) (.int _ _) ?_
  conv=>whnf
  refine aD (fun h2=>?_) (fun h2=>?_)
  ·conv=>whnf
   refine aA (.int _ _) ⟨?_,rfl,rfl⟩;have h2:rH na nb≠0:=by simpa using h2
   rw[bR,andThen,T7 h,andThen,T5 h2]
  have h2:rH na nb=0:=by simpa using h2
  conv=>whnf
  refine(Qb sa sb).use bB (.cons (.str _) (.cons (.str _) .nil)) (.int _ _) ?_
  conv=>whnf
  refine aD (fun h3=>?_) (fun h3=>?_)
  ·conv=>whnf
   refine aA (.int _ _) ⟨?_,rfl,rfl⟩;have h3:jF sa sb≠0:=by simpa using h3
   rw[bR,andThen,T7 h,andThen,T7 h2,andThen,T5 h3]
  have h3:jF sa sb=0:=by simpa using h3
  conv=>whnf
  refine(Oe ksa ksb ha.2.2.2.1 hkids).use bB (.cons (.il' (bC _)) (.cons (.il' (bC _)) (.cons (.fn _ _ _ (by simp) (by simp)) .nil))) (.int _ _) ?_
  conv=>whnf
  refine aA (.int _ _) ⟨?_,rfl,rfl⟩;rw[bR,andThen,T7 h,andThen,T7 h2,andThen,T7 h3]
 termination_by a=>SizeOf.sizeOf a
 decreasing_by simp;have:=VM hm;omega
theorem GL(b:Bool):aZ prog [] 149 [.bool b] (.int .i64 (if b then -1 else 1)):=by
 refine Go.Ax.f6 bB func149 rfl ?_
 conv=>whnf
 refine aD (fun h=>?_) (fun h=>?_)
 ·conv=>whnf
  exact aA (.int _ _) ⟨by rw[h];rfl,rfl,rfl⟩
 ·conv=>whnf
  exact aA (.int _ _) ⟨by rw[h];rfl,rfl,rfl⟩
theorem xU:∀(a b:aT),g5 a->aZ prog [] 93 [cK a,cK b] (.int .i64 (bR a b))
 | .mk ka na sa ksa,.mk kb nb sb ksb,ha=>by
  simp only[g5] at ha;have hb:ksa.length<=4294967296:=ha.2.2.2.1;have hkids:∀a∈ksa,∀b∈ksb,aZ prog [] 93 [cK a,cK b] (.int .i64 (bR a b)):=fun a hm b _=>xU a b (jC ha.2.2.2.2 a hm)
  refine Go.Ax.f6 bB func93 rfl ?_
  conv=>whnf
  refine aD (fun h=>?_) (fun h=>?_)
  ·conv=>whnf
   refine(GL _).use bB (.cons (.bool _) .nil) (.int _ _) ?_
   conv=>whnf
   refine aA (.int _ _) ⟨?_,rfl,rfl⟩;rw[K3 (by simpa using h)];simp
  have h:ka=kb:=by simpa using h
  conv=>whnf
  refine aD (fun h2=>?_) (fun h2=>?_)
  ·conv=>whnf
   refine(GL _).use bB (.cons (.bool _) .nil) (.int _ _) ?_
   conv=>whnf
   refine aA (.int _ _) ⟨?_,rfl,rfl⟩;rw[Li h (by simpa using h2)];simp
  have h2:na=nb:=by simpa using h2
  conv=>whnf
  refine aD (fun h3=>?_) (fun h3=>?_)
  ·conv=>whnf
   refine(GL _).use bB (.cons (.bool _) .nil) (.int _ _) ?_
   conv=>whnf
   refine aA (.int _ _) ⟨?_,rfl,rfl⟩;rw[QO h h2 (by simpa using h3)]
  have h3:sa=sb:=by simpa using h3
  have hcmp:bR (.mk ka na sa ksa) (.mk kb nb sb ksb)=fI ksa ksb:=Q7 h h2 h3
  conv=>whnf
  refine eD.loopAt bB (fun k:Nat=>k<=ksa.length/\k<=ksb.length/\fI ksa ksb=fI (ksa.drop k) (ksb.drop k))
   (fun k=>⟨[(2,.ptr 0 0 0),(3,.ptr 1 0 0),(5,.int .i64 k)],[(1,.row 55 4 [cK (.mk kb nb sb ksb)]),(0,.row 55 4 [cK (.mk ka na sa ksa)])],2,83⟩)
   (fun k=>ksa.length-k) 0 [(0,0),(1,1)] ⟨by simp,by simp,by simp⟩
   (aF _ rfl ⟨aK 1 (.cons (dZ _) .nil),aK 0 (.cons (dZ _) .nil),trivial⟩ ⟨aI,aI,aQ (.int _ _),trivial⟩) ?_
  rintro k ⟨h4,h5,h6⟩
  conv=>whnf
  refine aD (fun h7=>?_) (fun h7=>?_)
  ·have hk:k<ksa.length:=by rw[aB] at h7;simpa using h7
   rw[h7]
   conv=>whnf
   refine aD (fun h8=>?_) (fun h8=>?_)
   ·have hk2:k<ksb.length:=by rw[aB] at h8;simpa using h8
    conv=>whnf
    have e1:=Ez hk;have e2:=Ez hk2;obtain⟨⟨k1,n1,s1,ks1⟩,hv1⟩:∃v,v=ksa[k]:=⟨_,rfl⟩
    obtain⟨⟨k2,n2,s2,ks2⟩,hv2⟩:∃v,v=ksb[k]:=⟨_,rfl⟩
    rw[←hv1] at e1;rw[←hv2] at e2;refine aC e1 ?_
    conv=>whnf
    refine aC e2 ?_
    conv=>whnf
    have hm1:aT.mk k1 n1 s1 ks1∈ksa:=by rw[hv1];exact UW hk
    have hm2:aT.mk k2 n2 s2 ks2∈ksb:=by rw[hv2];exact UW hk2
    have hs:=Di hk hk2;rw[←hv1,←hv2] at hs;refine(hkids _ hm1 _ hm2).use bB (.cons (dZ _) (.cons (dZ _) .nil)) (.int _ _) ?_
    conv=>whnf
    refine aD (fun h9=>?_) (fun h9=>?_)
    ·have h9:bR (.mk k1 n1 s1 ks1) (.mk k2 n2 s2 ks2)≠0:=by simpa using h9
     conv=>whnf
     refine aA (.int _ _) ⟨?_,rfl,rfl⟩;rw[hcmp,h6,hs,andThen,T5 h9]
    ·have h9:bR (.mk k1 n1 s1 ks1) (.mk k2 n2 s2 ks2)=0:=by simpa using h9
     conv=>whnf
     refine .mk (k+1) [(0,0),(1,1)] ⟨by omega,by omega,by rw[h6,hs,andThen,T7 h9]⟩ (aF _ rfl ⟨aK 1 (.cons (dZ _) .nil),aK 0 (.cons (dZ _) .nil),trivial⟩ ⟨aI,aI,⟨_,rfl,.eq (.int _ _) ?_⟩,trivial⟩) (by omega);rw[bE ⟨by omega,by omega⟩];rfl
   ·have hk2:k=ksb.length:=by rw[aB] at h8;simp at h8;omega
    conv=>whnf
    refine aD (fun h9=>?_) (fun h9=>?_)
    ·exfalso;rw[aB,aB] at h9;simp at h9;omega
    ·conv=>whnf
     refine(GL _).use bB (.cons (.bool _) .nil) (.int _ _) ?_
     conv=>whnf
     refine aA (.int _ _) ⟨?_,rfl,rfl⟩;rw[hcmp,h6,U1 (l:=ksb) (by omega),UU hk,fI,aB,aB,T5 (by simp;omega)]
  ·have hk:k=ksa.length:=by rw[aB] at h7;simp at h7;omega
   have hd:ksa.drop k=[]:=U1 (by omega);rw[h7]
   conv=>whnf
   refine aD (fun h9=>?_) (fun h9=>?_)
   ·have h9:ksa.length=ksb.length:=by rw[aB,aB] at h9;simp at h9;omega
    conv=>whnf
    refine aA (.int _ _) ⟨?_,rfl,rfl⟩;rw[hcmp,h6,hd,U1 (by omega),fI]
   ·have h9:ksa.length≠ksb.length:=by rw[aB,aB] at h9;simp at h9;omega
    conv=>whnf
    refine(GL _).use bB (.cons (.bool _) .nil) (.int _ _) ?_
    conv=>whnf
    refine aA (.int _ _) ⟨?_,rfl,rfl⟩;rw[hcmp,h6,hd,UU (show k<ksb.length by omega),fI,aB,aB,T7 (by simp;omega)]
 termination_by a=>SizeOf.sizeOf a
 decreasing_by simp;have:=VM hm;omega
end Go.Proofs.YtidjhgajglebnaaGreatDoor
namespace Go.Proofs
open Go.Shelf
end Go.Proofs
namespace Go.Proofs.YtidjhgajglebnaaGreatDoor
open Go Go.Ax Go.Proofs Tryz
set_option maxRecDepth 100000
set_option maxHeartbeats 4000000
theorem gF:∀p∈gz,NN p.2:=fun p hp=>by
 simp only[gz,T6,WS,or_false] at hp;rcases hp with rfl|rfl|rfl
 ·exact nn
 ·exact nn
 ·exact nn
set_option maxHeartbeats 4000000
theorem yN{ids:List Nat}{k:Nat}(hk:Aa k ids=true):∀(m:aN),lk (kU ids m) k=lk m k
 | []=>rfl
 | (j,b)::r=>by
  simp only[kU,lk];split
  ·simp only[lk,yN hk r]
  ·rename_i h;rw[yN hk r];split
   ·rename_i e;rw[T2 e,hk] at h;cases h
   ·rfl
set_option maxHeartbeats 4000000
abbrev wC(id n:Nat):AB:=.row 288 1 [.agg [.sl id 0 n]]
abbrev wM(s:List UInt8):aN:=[(0,wC 1 s.length),(1,.row 5 1 (kI s))]
def wN(s:List UInt8)(m:aN)(n:Nat):Prop:=m=[(0,wC 2 s.length),(2,.row 5 1 (kI s))]/\n=3
def Jl(s:List UInt8)(r:AV)(m:aN)(n:Nat):Prop:=r = .tup []/\wN s m n
theorem rD{mem:aN}{σ:List (Nat × Nat)}{i j n n':Nat}(h1:lk σ i=some j)(h:n=n'):rI mem σ [.agg [.sl i 0 n]] [.agg [.sl j 0 n']]:=
 .cons (.agg (.cons (.slE h1 h) .nil)) .nil
theorem y8{Γ:List (Nat × AV)}{F:FuncId}{aa:List AV}{s s':List UInt8}{rv:AV}{mem:aN}{nx:Nat}{K:AV->aN->Nat->Prop}(i:Nat)(hΓ:∀p∈Γ,NN p.2)
  (h:aE prog Γ F (.ptr 0 0 0::aa) (wM s) 2 fun r m n=>r=rv/\wN s' m n) (h0:lk mem 0=some (wC i s.length)) (h1:lk mem i=some (.row 5 1 (kI s))) (hi:Nat.blt 0 i=true) (hin:Nat.blt i nx=true)
  (hk:K rv ((0,wC nx s'.length)::(nx,.row 5 1 (kI s'))::iZ [0,i] mem) (nx+1)) (ha:kH aa:=by exact cZ) (hr:NN rv:=by exact nn):aE prog Γ F (.ptr 0 0 0::aa) mem nx K:=by
 have hi:=T3 hi;have hin:=T3 hin;have e0:Nat.beq 0 i=false:=l6 (by omega);have k0:Aa 0 [0,i]=true:=rfl;have ki:Aa i [0,i]=true:=by simp[Aa,e0]
 have s0:lk [(0,0),(i,1)] 0=some 0:=rfl;have si:lk [(0,0),(i,1)] i=some 1:=by simp[lk,e0]
 refine aE.useN hΓ [(0,0),(i,1)] h rfl (.cons (.ptr 0 0 0 0 rfl) (.same ha)) ⟨⟨0,_,s0,by rw[←h0];exact yN k0 mem,rD si rfl⟩,⟨i,_,si,by rw[←h1];exact yN ki mem,.same (Go.Ax.f9 _)⟩,trivial⟩ rfl ?_;rintro r m n ⟨rfl,rfl,rfl⟩;refine⟨[(0,0),(2,nx)],_,[(0,wC nx s'.length),(nx,.row 5 1 (kI s'))],nx+1,.same _ hr,⟨⟨0,_,rfl,rfl,rD rfl rfl⟩,aK 2 (Go.Ax.f9 _),trivial⟩, ?_,hk⟩;have e1:Nat.beq nx 0=false:=l6 (by omega);have e2:Nat.ble nx 0=false:=by
  cases e:Nat.ble nx 0 with
  | false=>rfl
  | true=>have:=T3 e;omega
 have e3:Nat.ble nx nx=true:=T8 (UC _);have e4:Nat.ble nx (nx+1)=true:=T8 (by omega);have e5:Nat.blt nx (nx+1)=true:=T8 (by omega);have e6:Nat.blt 0 2=true:=rfl;have e7:Nat.blt 2 2=false:=rfl;simp only[rF,vZ,rG,CZ,CD,rA,HM,e1,e2,e3,e4,e5,e6,e7,k0,s0];rfl
theorem o7{s:List UInt8}{xs:List AV}{mem:aN}{nx i n:Nat}(h0:lk mem 0=some (wC i n))(h1:lk mem i=some (.row 5 1 xs))(hi:2<=i)(hn:n=s.length)(hx:xs=kI s):oH 2 (Jl s) (.tup []) mem nx:=by
 have e0:Nat.beq 0 i=false:=l6 (by omega);have si:lk [(0,0),(i,2)] i=some 2:=by simp[lk,e0]
 exact bJ (r':=.tup []) (m':=[(0,wC 2 s.length),(2,.row 5 1 (kI s))]) (n':=3) [(0,0),(i,2)] rfl
  ⟨⟨0,_,rfl,h0,rD si hn⟩,⟨i,_,si,h1,.eq (Go.Ax.f9 _) hx⟩,trivial⟩ (.same _ nn) ⟨rfl,rfl,rfl⟩
theorem P2(s:List UInt8)(u:Nat)(hu:u<18446744073709551616)(hs:s.length<=90000000):aE prog [] 249 [.ptr 0 0 0,.int .u64 u] (wM s) 2 (Jl (s++kV u)):=by
 have hul:=n7 hu;refine aG bB func249 rfl ?_;refine Rr ?_;refine bA.at bB (fun x:Nat × List UInt8=>x.2++kV x.1=s++kV u)
  (fun x=>⟨[(0,.ptr 0 0 0),(1,.int .u64 x.1)],[(0,wC 2 x.2.length),(2,.row 5 1 (kI x.2))],3,31⟩) (fun x=>x.1) (u,s) [(0,0),(1,2)] rfl
  (aF _ rfl ⟨⟨0,_,rfl,rfl,rD rfl rfl⟩,aK 1 (Go.Ax.f9 _),trivial⟩ ⟨aI,aJ,trivial⟩) ?_
 rintro⟨n,acc⟩ hx;simp only at hx;have hal:acc.length<=s.length+10:=by have:=congrArg List.length hx;simp at this;omega
 refine Rr ?_;refine aD (fun h=>?_) (fun h=>?_)
 ·have hn:¬n<128:=by simp at h;omega
  refine Rr ?_;refine aM (bT rfl rfl (gQ _).symm (by simp;omega)) ?_;refine Rr ?_;rw[KE,TG];refine .mk (n/128,acc++[UInt8.ofNat (128+n%128)]) [(0,0),(4,2)] ?_ (aF _ rfl ⟨⟨0,_,rfl,rfl,rD rfl (by simp)⟩,⟨4,_,rfl,rfl,.eq (Go.Ax.f9 _) (by rw[mD];rfl)⟩,trivial⟩ ⟨aI,aJ,trivial⟩) (by simp only;omega);rw[Cb hn] at hx;simpa using hx
 ·have hn:n<128:=by simp at h;omega
  refine Rr ?_;refine aM (bT rfl rfl (gQ _).symm (by simp;omega)) ?_;refine Rr ?_;rw[KV hn];rw[qL hn] at hx;exact o7 (i:=4) rfl rfl (by omega) (by rw[←hx];simp) (by rw[←hx,mD];rfl)
theorem Q3(s:List UInt8)(n:Int)(hn:i64 n)(hs:s.length<=90000000):aE prog [] 232 [.ptr 0 0 0,.int .i64 n] (wM s) 2 (Jl (s++fM n)):=by
 have hU:=P2 s (LJ n) (FS hn) hs;refine aG bB func232 rfl ?_;have hz:=Lo hn;unfold fM;generalize LJ n=z at hU hz ⊢;refine Rr ?_;rw[hz];refine y8 1 bB hU rfl rfl rfl rfl ?_;refine Rr ?_;exact o7 (i:=2) rfl rfl (by omega) rfl rfl
theorem Ro(s:List UInt8)(b:Bool)(hs:s.length<=90000000):aE prog [] 263 [.ptr 0 0 0,.bool b] (wM s) 2 (Jl (s++[if b=true then 1 else 0])):=by
 refine aG bB func263 rfl ?_;cases b with
 | true=>
  refine Rr ?_;refine aM (bT rfl rfl (gQ _).symm (by simp;omega)) ?_;refine Rr ?_;exact o7 (i:=3) rfl rfl (by omega) (by simp) (by rw[mD];rfl)
 | false=>
  refine Rr ?_;refine aM (bT rfl rfl (gQ _).symm (by simp;omega)) ?_;refine Rr ?_;exact o7 (i:=3) rfl rfl (by omega) (by simp) (by rw[mD];rfl)
theorem R2(s w:List UInt8)(hs:s.length+w.length<=90000000):aE prog [] 264 [.ptr 0 0 0,.str w] (wM s) 2 (Jl (s++(kV w.length++w))):=by
 have hU:=P2 s w.length (by omega) (by omega);have hul:=n7 (n:=w.length) (by omega);have hw:IntKind.u64.wrap (w.length:Int)=(w.length:Int):=BY (by omega) (by omega);generalize kV w.length=x at hU hul ⊢;refine aG bB func264 rfl ?_;refine Rr ?_;rw[hw];refine y8 1 bB hU rfl rfl rfl rfl ?_;refine Rr ?_;have e:List.map (fun b:UInt8=>AV.int IntKind.u8 (b.toNat:Int)) w=kI w:=rfl;rw[e];refine aM (bT rfl rfl (gQ _).symm (by rw[gQ];simp;omega)) ?_;refine Rr ?_;exact o7 (i:=3) rfl rfl (by omega) (by rw[gQ];simp;omega) (by rw[←mD,Ur])
set_option maxHeartbeats 4000000
theorem NI:∀v:aT,aY v<=1099511627776->aZ prog [] 73 [cK v] (.int .i64 (aY v))
 | .mk vk vn vs ks,hs=>by
  have hs':bO ks+1<=1099511627776:=by simp only[aY] at hs;omega
  have ih:∀a∈ks,aZ prog [] 73 [cK a] (.int .i64 (aY a)):=fun a hm=>NI a (by have:=EI hm;omega)
  have hl:=uC ks;refine aG bB func73 rfl ?_;refine Rr ?_;refine bA.at bB (fun k:Nat=>k<=ks.length)
   (fun k=>⟨[(1,.ptr 0 0 0),(3,.int .i64 (1+bO (ks.take k):Nat)),(4,.int .i64 k)],[(0,.row 55 4 [cK (.mk vk vn vs ks)])],1,21⟩)
   (fun k=>ks.length-k) 0 [(0,0)] (by simp)
   (aF _ rfl ⟨aK 0 cZ,trivial⟩ ⟨aI,aJ,aJ,trivial⟩) ?_
  intro k hk;refine Rr ?_;refine aD (fun h=>?_) (fun h=>?_)
  ·have hlt:=GE h;obtain⟨a,b,c,d,hm,hg,he,e1⟩:=bZ hlt;have hsz:=oC hlt;have hle:=jE ks (k+1);rw[he] at hsz;refine Rr ?_;refine aC e1 ?_;refine Rr ?_;refine(ih _ hm).go ?_;refine Rr ?_;exact .mk (k+1) [(0,0)] (by omega) (aF _ rfl ⟨aK 0 cZ,trivial⟩ ⟨aI,⟨_,rfl,.wo⟩,⟨_,rfl,.wo⟩,trivial⟩) (by omega)
  ·have hk':k=ks.length:=by have:=G5 h;omega
   refine Rr ?_;refine aA nn ⟨?_,rfl,rfl⟩;rw[hk',UM,aY]
 termination_by v=>SizeOf.sizeOf v
 decreasing_by simp;have:=VM hm;omega
theorem Ni(c:Int):aZ prog [] 246 [.int .u8 c] (.bool (uJ c)):=by
 refine aG bB func246 rfl ?_;refine Rr ?_;repeat' (refine aD (fun h=>?_) (fun h=>?_)<;>((try rw[h]);refine Rr ?_))
 all_goals
  refine aA nn ⟨?_,rfl,rfl⟩;congr 1;rw[Ue];simp[uJ] at *;try omega
theorem MF(s:List UInt8)(hs:s.length<=4294967296):aZ prog [] 192 [.str s] (.bool (eH s)):=by
  refine aG bB func192 rfl ?_;refine Rr ?_;refine aD (fun h=>?_) (fun h=>?_)
  · rw[h]
    refine Rr ?_;refine aA nn ⟨?_,rfl,rfl⟩;rw[rP (by simp at h;omega)]
  have h1:1<=s.length:=by simp at h;omega
  rw[h];refine Rr ?_;refine aD (fun h=>?_) (fun h=>?_)
  · rw[h]
    refine Rr ?_;refine aA nn ⟨?_,rfl,rfl⟩;rw[kN (by simp at h;omega)]
  have h2:s.length<=16:=by simp at h;omega
  rw[h];obtain⟨a,ha⟩:∃a,s[0]? = some a:=⟨s[0],by simp⟩
  refine Rr ?_;refine aC ha ?_;refine Rr ?_;refine aD (fun h=>?_) (fun h=>?_)
  · rw[h]
    refine Rr ?_;refine aA nn ⟨?_,rfl,rfl⟩;rw[jS ha (by simp[upper] at *;omega)]
  have h3:65<=(a.toNat:Int):=by simpa using h
  rw[h];refine Rr ?_;refine aC ha ?_;refine Rr ?_;refine aD (fun h=>?_) (fun h=>?_)
  · refine Rr ?_
    refine aA nn ⟨?_,rfl,rfl⟩;rw[jS ha (by simp[upper] at *;omega)]
  have h4:(a.toNat:Int)<=90:=by simpa using h
  refine Rr ?_;refine bA.at bB (fun i:Nat=>i<=s.length/\∀j c,j<i->s[j]? = some c->uJ c.toNat=true)
    (fun i=>⟨[(0,.str s),(3,.int .i64 i)],[],0,64⟩) (fun i=>s.length-i) 0 [] ⟨by simp,by simp⟩
    (bV ⟨aJ,aJ,trivial⟩) ?_
  rintro i ⟨hi,hall⟩;refine Rr ?_;refine aD (fun h=>?_) (fun h=>?_)
  · have hlt:i<s.length:=by simpa using h
    obtain⟨c,hc⟩:∃c,s[i]? = some c:=⟨s[i],by simp[hlt]⟩
    have hc':s[(i:Int).toNat]? = some c:=by rw[T4];exact hc
    refine Rr ?_;refine aC hc' ?_;refine Rr ?_;repeat' (refine aD (fun h=>?_) (fun h=>?_)<;>((try rw[h]);refine Rr ?_))
    all_goals first
      | (refine aA nn ⟨?_,rfl,rfl⟩
         rw[vY hc (by rw[Vc];simp[uJ] at *;omega)])
      | (refine .mk (i+1) [] ⟨by omega,fun j c2 hj hc2=>?_⟩ (bV ⟨aJ,⟨_,rfl,.wo⟩,trivial⟩) (by omega)
         rcases UG j i with hj'|hj'
         · exact hall j c2 hj' hc2
         · have hji:j=i:=by omega
           rw[hji,hc] at hc2;cases hc2;simp[uJ] at *;omega)
  · refine Rr ?_
    refine aA nn ⟨?_,rfl,rfl⟩;have hk:i=s.length:=by simp at h;omega
    rw[vJ ha h2 (by simp[upper];omega) fun j c hc=>hall j c (by rw[hk];exact(T0.1 hc).1) hc]
theorem Lb(s:List UInt8)(hs:s.length<=4294967296):aZ prog [] 227 [.str s] (.bool (eH s)):=by
 refine aG bB func227 rfl ?_;refine Rr ?_;refine aD (fun h=>?_) (fun h=>?_)
 ·rw[h];refine Rr ?_;refine aA nn ⟨?_,rfl,rfl⟩;rw[rP (by simp at h;rw[h];simp)]
 have h1:1<=s.length:=by
  rcases UK s.length with h'|h'
  ·rw[UL h'] at h;simp at h
  ·exact h'
 rw[h];refine Rr ?_;refine aD (fun h=>?_) (fun h=>?_)
 ·rw[h];refine Rr ?_;refine aA nn ⟨?_,rfl,rfl⟩;rw[kN (by simp at h;omega)]
 have h2:s.length<=16:=by simp at h;omega
 rw[h];obtain⟨a,ha⟩:∃a,s[0]? = some a:=⟨s[0],by simp⟩
 refine Rr ?_;refine aC ha ?_;refine Rr ?_;refine aD (fun h=>?_) (fun h=>?_)
 ·rw[h];refine Rr ?_;refine aA nn ⟨?_,rfl,rfl⟩;rw[jS ha (by simp[upper] at *;omega)]
 have h3:65<=(a.toNat:Int):=by simpa using h
 rw[h];refine Rr ?_;refine aC ha ?_;refine Rr ?_;refine aD (fun h=>?_) (fun h=>?_)
 ·refine Rr ?_;refine aA nn ⟨?_,rfl,rfl⟩;rw[jS ha (by simp[upper] at *;omega)]
 have h4:(a.toNat:Int)<=90:=by simpa using h
 have hua:upper a.toNat=true:=by simp[upper];omega
 refine Rr ?_;refine bA.at bB (fun i:Nat=>1<=i/\i<=s.length/\∀j c,j<i->s[j]? = some c->uJ c.toNat=true)
  (fun i=>⟨[(0,.str s),(3,.int .i64 i)],[],0,32⟩) (fun i=>s.length-i) 1 [] ⟨by simp,h1,fun j c hj hc=>by rw[show j=0 by omega,ha] at hc;cases hc;exact Gy hua⟩
  (bV ⟨aJ,aJ,trivial⟩) ?_
 rintro i ⟨h0,hi,hall⟩;refine Rr ?_;refine aD (fun h=>?_) (fun h=>?_)
 ·have hlt:i<s.length:=by simpa using h
  obtain⟨c,hc⟩:∃c,s[i]? = some c:=⟨s[i],by simp[hlt]⟩
  have hc':s[(i:Int).toNat]? = some c:=by rw[T4];exact hc
  refine Rr ?_;refine aC hc' ?_;refine Rr ?_;refine(Ni c.toNat).go ?_;refine Rr ?_;cases hb:uJ c.toNat with
  | false=>
   refine Rr ?_;refine aA nn ⟨?_,rfl,rfl⟩;rw[vY hc hb]
  | true=>
   refine Rr ?_;refine .mk (i+1) [] ⟨by omega,by omega,fun j c2 hj hc2=>?_⟩ (bV ⟨aJ,⟨_,rfl,.wo⟩,trivial⟩) (by omega);rcases UG j i with hj'|hj'
   ·exact hall j c2 hj' hc2
   ·have hji:j=i:=by omega
    rw[hji,hc] at hc2;cases hc2;exact hb
 ·refine Rr ?_;refine aA nn ⟨?_,rfl,rfl⟩;have hk:i=s.length:=by simp at h;omega
  rw[vJ ha h2 hua fun j c hc=>hall j c (by rw[hk];exact(T0.1 hc).1) hc]
set_option maxHeartbeats 4000000
theorem PM(vk vn:Int)(vs:List UInt8)(ks:List aT)(hs:vs.length<=4294967296):aZ prog [] 181 [cK (.mk vk vn vs ks)] (.bool (cE vk vn vs ks.length)):=by
 refine aG bB func181 rfl ?_;refine Rr ?_;repeat' (first|(refine aD (fun h=>?_) (fun h=>?_)<;>((try rw[h]);refine Rr ?_))|(refine(Lb vs hs).go ?_;refine Rr ?_))
 all_goals
  refine aA nn ⟨?_,rfl,rfl⟩;congr 1;rw[Ue];simp_all[cE,aB,Ux,List.isEmpty_iff]
theorem R1(vk vn:Int)(vs:List UInt8)(ks:List aT):aZ prog [] 182 [cK (.mk vk vn vs ks)] (.bool (tC vk ks.length)):=by
 refine aG bB func182 rfl ?_;refine Rr ?_;repeat' (refine aD (fun h=>?_) (fun h=>?_)<;>((try rw[h]);refine Rr ?_))
 all_goals
  refine aA nn ⟨?_,rfl,rfl⟩;congr 1;rw[Ue];simp[tC,aB] at *;try omega
theorem Iu:∀v:aT,g5 v->aZ prog [] 130 [cK v] (.bool (bI v))
  | .mk vk vn vs ks,hv=>by
    simp only[g5] at hv;obtain⟨hv1,hv2,hv3,hv4,hv5⟩:=hv;have ih:∀a∈ks,aZ prog [] 130 [cK a] (.bool (bI a)):=fun a hm=>Iu a (jC hv5 a hm)
    clear hv5;refine aG bB func130 rfl ?_;refine Rr ?_;refine(MF vs hv3).go ?_;obtain⟨cb,hcb⟩:∃cb,cb=eH vs:=⟨_,rfl⟩
    rw[←hcb];rcases(show vk=0∨vk=1∨vk=2∨vk=3∨(vk<0∨3<vk) by omega) with rfl|rfl|rfl|rfl|hk
    · refine Rr ?_
      repeat' (refine aD (fun h=>?_) (fun h=>?_)<;>((try rw[h]);refine Rr ?_))
      all_goals first
        | (refine aA nn ⟨?_,rfl,rfl⟩
           clear ih;have hf1:cE 0 vn vs ks.length=false:=by
             rw[Vc];simp_all[cE,aB,U9];try omega
           rw[bI,hf1];rfl)
        | (have hf1:cE 0 vn vs ks.length=true:=by
             clear ih;simp_all[cE,aB,U9];try omega
           refine bA.at bB (fun k:Nat=>k<=ks.length/\cC (ks.take k)=true)
             (fun k=>⟨[(1,.ptr 0 0 0),(4,.int .i64 k)],[(0,.row 55 4 [cK (.mk 0 vn vs ks)])],1,95⟩) (fun k=>ks.length-k) 0 [(0,0)] ⟨by simp,rfl⟩
             (aF _ rfl ⟨aK 0 cZ,trivial⟩ ⟨aI,aJ,trivial⟩) ?_
           rintro k ⟨hk,hall⟩;refine Rr ?_;refine aD (fun h=>?_) (fun h=>?_)
           · have hlt:=GE h
             obtain⟨a,b,c,d,hm,hg,he,e1⟩:=bZ hlt;have hih:=ih _ hm;obtain⟨fb,hfb⟩:∃fb,fb=bI (.mk a b c d):=⟨_,rfl⟩
             rw[←hfb] at hih;refine Rr ?_;refine aC e1 ?_;refine Rr ?_;refine hih.go ?_;cases fb with
             | false=>
               refine Rr ?_;refine aA nn ⟨?_,rfl,rfl⟩;rw[bI,mC hm hfb.symm,Vw]
             | true=>
               refine Rr ?_;refine .mk (k+1) [(0,0)] ⟨by omega, ?_⟩ (aF _ rfl ⟨aK 0 cZ,trivial⟩ ⟨aI,⟨_,rfl,.wo⟩,trivial⟩) (by omega);rw[mS hlt,hall,he,←hfb];rfl
           · have hk':k=ks.length:=by have:=G5 h;omega
             refine Rr ?_;refine aA nn ⟨?_,rfl,rfl⟩;rw[hk',UM] at hall;rw[bI,hf1,hall];rfl)
    · refine Rr ?_
      repeat' (refine aD (fun h=>?_) (fun h=>?_)<;>((try rw[h]);refine Rr ?_))
      all_goals first
        | (refine aA nn ⟨?_,rfl,rfl⟩
           clear ih;have hf1:cE 1 vn vs ks.length=false:=by
             rw[Vc];simp_all[cE,aB,U9];try omega
           rw[bI,hf1];rfl)
        | (have hf1:cE 1 vn vs ks.length=true:=by
             clear ih;simp_all[cE,aB,U9];try omega
           refine bA.at bB (fun k:Nat=>k<=ks.length/\cC (ks.take k)=true)
             (fun k=>⟨[(1,.ptr 0 0 0),(4,.int .i64 k)],[(0,.row 55 4 [cK (.mk 1 vn vs ks)])],1,95⟩) (fun k=>ks.length-k) 0 [(0,0)] ⟨by simp,rfl⟩
             (aF _ rfl ⟨aK 0 cZ,trivial⟩ ⟨aI,aJ,trivial⟩) ?_
           rintro k ⟨hk,hall⟩;refine Rr ?_;refine aD (fun h=>?_) (fun h=>?_)
           · have hlt:=GE h
             obtain⟨a,b,c,d,hm,hg,he,e1⟩:=bZ hlt;have hih:=ih _ hm;obtain⟨fb,hfb⟩:∃fb,fb=bI (.mk a b c d):=⟨_,rfl⟩
             rw[←hfb] at hih;refine Rr ?_;refine aC e1 ?_;refine Rr ?_;refine hih.go ?_;cases fb with
             | false=>
               refine Rr ?_;refine aA nn ⟨?_,rfl,rfl⟩;rw[bI,mC hm hfb.symm,Vw]
             | true=>
               refine Rr ?_;refine .mk (k+1) [(0,0)] ⟨by omega, ?_⟩ (aF _ rfl ⟨aK 0 cZ,trivial⟩ ⟨aI,⟨_,rfl,.wo⟩,trivial⟩) (by omega);rw[mS hlt,hall,he,←hfb];rfl
           · have hk':k=ks.length:=by have:=G5 h;omega
             refine Rr ?_;refine aA nn ⟨?_,rfl,rfl⟩;rw[hk',UM] at hall;rw[bI,hf1,hall];rfl)
    · refine Rr ?_
      repeat' (refine aD (fun h=>?_) (fun h=>?_)<;>((try rw[h]);refine Rr ?_))
      all_goals first
        | (refine aA nn ⟨?_,rfl,rfl⟩
           clear ih;have hf1:cE 2 vn vs ks.length=false:=by
             rw[Vc];simp_all[cE];try omega
           rw[bI,hf1];rfl)
        | (have hf1:cE 2 vn vs ks.length=true:=by
             clear ih;simp_all[cE];try omega
           refine bA.at bB (fun k:Nat=>k<=ks.length/\cC (ks.take k)=true)
             (fun k=>⟨[(1,.ptr 0 0 0),(4,.int .i64 k)],[(0,.row 55 4 [cK (.mk 2 vn vs ks)])],1,95⟩) (fun k=>ks.length-k) 0 [(0,0)] ⟨by simp,rfl⟩
             (aF _ rfl ⟨aK 0 cZ,trivial⟩ ⟨aI,aJ,trivial⟩) ?_
           rintro k ⟨hk,hall⟩;refine Rr ?_;refine aD (fun h=>?_) (fun h=>?_)
           · have hlt:=GE h
             obtain⟨a,b,c,d,hm,hg,he,e1⟩:=bZ hlt;have hih:=ih _ hm;obtain⟨fb,hfb⟩:∃fb,fb=bI (.mk a b c d):=⟨_,rfl⟩
             rw[←hfb] at hih;refine Rr ?_;refine aC e1 ?_;refine Rr ?_;refine hih.go ?_;cases fb with
             | false=>
               refine Rr ?_;refine aA nn ⟨?_,rfl,rfl⟩;rw[bI,mC hm hfb.symm,Vw]
             | true=>
               refine Rr ?_;refine .mk (k+1) [(0,0)] ⟨by omega, ?_⟩ (aF _ rfl ⟨aK 0 cZ,trivial⟩ ⟨aI,⟨_,rfl,.wo⟩,trivial⟩) (by omega);rw[mS hlt,hall,he,←hfb];rfl
           · have hk':k=ks.length:=by have:=G5 h;omega
             refine Rr ?_;refine aA nn ⟨?_,rfl,rfl⟩;rw[hk',UM] at hall;rw[bI,hf1,hall];rfl)
    · refine Rr ?_
      repeat' (refine aD (fun h=>?_) (fun h=>?_)<;>((try rw[h]);refine Rr ?_))
      all_goals first
        | (refine aA nn ⟨?_,rfl,rfl⟩
           clear ih;have hf1:cE 3 vn vs ks.length=false:=by
             rw[Vc];simp_all[cE];try omega
           rw[bI,hf1];rfl)
        | (have hf1:cE 3 vn vs ks.length=true:=by
             clear ih;simp_all[cE];try omega
           refine bA.at bB (fun k:Nat=>k<=ks.length/\cC (ks.take k)=true)
             (fun k=>⟨[(1,.ptr 0 0 0),(4,.int .i64 k)],[(0,.row 55 4 [cK (.mk 3 vn vs ks)])],1,95⟩) (fun k=>ks.length-k) 0 [(0,0)] ⟨by simp,rfl⟩
             (aF _ rfl ⟨aK 0 cZ,trivial⟩ ⟨aI,aJ,trivial⟩) ?_
           rintro k ⟨hk,hall⟩;refine Rr ?_;refine aD (fun h=>?_) (fun h=>?_)
           · have hlt:=GE h
             obtain⟨a,b,c,d,hm,hg,he,e1⟩:=bZ hlt;have hih:=ih _ hm;obtain⟨fb,hfb⟩:∃fb,fb=bI (.mk a b c d):=⟨_,rfl⟩
             rw[←hfb] at hih;refine Rr ?_;refine aC e1 ?_;refine Rr ?_;refine hih.go ?_;cases fb with
             | false=>
               refine Rr ?_;refine aA nn ⟨?_,rfl,rfl⟩;rw[bI,mC hm hfb.symm,Vw]
             | true=>
               refine Rr ?_;refine .mk (k+1) [(0,0)] ⟨by omega, ?_⟩ (aF _ rfl ⟨aK 0 cZ,trivial⟩ ⟨aI,⟨_,rfl,.wo⟩,trivial⟩) (by omega);rw[mS hlt,hall,he,←hfb];rfl
           · have hk':k=ks.length:=by have:=G5 h;omega
             refine Rr ?_;refine aA nn ⟨?_,rfl,rfl⟩;rw[hk',UM] at hall;rw[bI,hf1,hall];rfl)
    · have e0:(vk == 0)=false:=by simp;omega
      have e1:(vk == 1)=false:=by simp;omega
      have e2:(vk == 2)=false:=by simp;omega
      have e3:(vk == 3)=false:=by simp;omega
      have hf1:cE vk vn vs ks.length=false:=by
        unfold cE;rw[T5 (by omega),T5 (by omega),T5 (by omega),T5 (by omega)]
      have hfin:AV.bool false=AV.bool (bI (.mk vk vn vs ks)):=by rw[bI,hf1];rfl
      refine Rr ?_;repeat((first|rw[e0]|rw[e1]|rw[e2]|rw[e3]);refine Rr ?_)
      refine aD (fun h=>?_) (fun h=>?_)
      · rw[h]
        refine Rr ?_;exact aA nn ⟨hfin,rfl,rfl⟩
      · rw[h]
        refine Rr ?_;refine aD (fun h'=>?_) (fun h'=>?_)
        · refine Rr ?_
          exact aA nn ⟨hfin,rfl,rfl⟩
        · exfalso
          simp at h h';omega
  termination_by v=>SizeOf.sizeOf v
  decreasing_by simp;have:=VM hm;omega
theorem QB:∀v:aT,g5 v->aZ prog [] 131 [cK v] (.bool (jD v))
  | .mk vk vn vs ks,hv=>by
    simp only[g5] at hv;obtain⟨hv1,hv2,hv3,hv4,hv5⟩:=hv;have ih:∀a∈ks,aZ prog [] 131 [cK a] (.bool (jD a)):=fun a hm=>QB a (jC hv5 a hm)
    clear hv5;refine aG bB func131 rfl ?_;refine Rr ?_;repeat' (refine aD (fun h=>?_) (fun h=>?_)<;>((try rw[h]);refine Rr ?_))
    all_goals first
      | (refine aA nn ⟨?_,rfl,rfl⟩
         clear ih;have hf1:wW vk ks.length=true:=by
           simp[wW,aB] at *;omega
         rw[jD,hf1];rfl)
      | (have hf1:wW vk ks.length=false:=by
           clear ih;rw[Vc];simp[wW,aB] at *;omega
         refine bA.at bB (fun k:Nat=>k<=ks.length/\oE (ks.take k)=false)
           (fun k=>⟨[(1,.ptr 0 0 0),(3,.int .i64 k)],[(0,.row 55 4 [cK (.mk vk vn vs ks)])],1,39⟩) (fun k=>ks.length-k) 0 [(0,0)] ⟨by simp,rfl⟩
           (aF _ rfl ⟨aK 0 cZ,trivial⟩ ⟨aI,aJ,trivial⟩) ?_
         rintro k ⟨hk,hall⟩;refine Rr ?_;refine aD (fun h=>?_) (fun h=>?_)
         · have hlt:=GE h
           obtain⟨a,b,c,d,hm,hg,he,e1⟩:=bZ hlt;have hih:=ih _ hm;obtain⟨fb,hfb⟩:∃fb,fb=jD (.mk a b c d):=⟨_,rfl⟩
           rw[←hfb] at hih;refine Rr ?_;refine aC e1 ?_;refine Rr ?_;refine hih.go ?_;cases fb with
           | true=>
             refine Rr ?_;refine aA nn ⟨?_,rfl,rfl⟩;rw[jD,D3 hm hfb.symm,Bool.or_true]
           | false=>
             refine Rr ?_;refine .mk (k+1) [(0,0)] ⟨by omega, ?_⟩ (aF _ rfl ⟨aK 0 cZ,trivial⟩ ⟨aI,⟨_,rfl,.wo⟩,trivial⟩) (by omega);rw[HY hlt,hall,he,←hfb];rfl
         · have hk':k=ks.length:=by have:=G5 h;omega
           refine Rr ?_;refine aA nn ⟨?_,rfl,rfl⟩;rw[hk',UM] at hall;rw[jD,hf1,hall];rfl)
  termination_by v=>SizeOf.sizeOf v
  decreasing_by simp;have:=VM hm;omega
theorem Qd:∀v:aT,g5 v->aY v<=1099511627776->aZ prog [] 71 [cK v] (.int .i64 (bS v))
 | .mk vk vn vs ks,hv,hs=>by
  have h1:=Iu _ hv;have h2:=QB _ hv;have h3:=NI _ hs;have hval:bS (.mk vk vn vs ks)=if bI (.mk vk vn vs ks)=false then 1 else if jD (.mk vk vn vs ks)=true∨1024<aY (.mk vk vn vs ks) then 4 else 0:=rfl
  generalize bI (.mk vk vn vs ks)=fb at h1 hval;generalize jD (.mk vk vn vs ks)=wb at h2 hval;generalize aY (.mk vk vn vs ks)=sz at h3 hval;generalize bS (.mk vk vn vs ks)=res at hval;refine aG bB func71 rfl ?_;refine Rr ?_;refine h1.go ?_;cases fb with
  | false=>
   refine Rr ?_;refine aA nn ⟨?_,rfl,rfl⟩;rw[hval];rfl
  | true=>
   refine Rr ?_;refine h2.go ?_;cases wb with
   | true=>
    refine Rr ?_;refine aA nn ⟨?_,rfl,rfl⟩;rw[hval];simp
   | false=>
    refine Rr ?_;refine h3.go ?_;refine Rr ?_;refine aD (fun h=>?_) (fun h=>?_)
    ·refine Rr ?_;refine aA nn ⟨?_,rfl,rfl⟩;rw[hval,T5 (by simp),T7 (by simp at h;omega)]
    ·refine Rr ?_;refine aA nn ⟨?_,rfl,rfl⟩;rw[hval,T5 (by simp),T5 (by simp at h;simp;omega)]
end Go.Proofs.YtidjhgajglebnaaGreatDoor
namespace Go.Proofs.YtidjhgajglebnaaGreatDoor
open Go Go.Ax Go.Proofs Tryz
set_option maxRecDepth 100000
set_option maxHeartbeats 4000000
def cI(n:Nat):AB:=.row 3 1 [.int .i64 n]
def cB(b:Bool):AB:=.row 4 1 [.bool b]
def cF(f:AV):AB:=.row 277 1 [f]
section
variable {mem:aN} {σ:List (Nat × Nat)}
theorem HP{F:FuncId}{i:Nat}(h:lk σ i=some i):rI mem σ [.fn (.func F) [] [.ptr i 0 0]] [.fn (.func F) [] [.ptr i 0 0]]:=
 .cons (.one rfl rfl (.fn _ _ _ _ _ rfl rfl (by simp) (jJ.cons (.ptr i i 0 0 h) .nil).2)) .nil
theorem q9{F:FuncId}{i j:Nat}(h:lk σ i=some i)(h':lk σ j=some j):rI mem σ [.fn (.func F) [] [.ptr i 0 0,.ptr j 0 0]] [.fn (.func F) [] [.ptr i 0 0,.ptr j 0 0]]:=
 .cons (.one rfl rfl (.fn _ _ _ _ _ rfl rfl (by simp) (jJ.cons (.ptr i i 0 0 h) (.cons (.ptr j j 0 0 h') .nil)).2)) .nil
theorem BX{F:FuncId}{i j k:Nat}(h:lk σ i=some i)(h':lk σ j=some j)(h'':lk σ k=some k):rI mem σ [.fn (.func F) [] [.ptr i 0 0,.ptr j 0 0,.ptr k 0 0]] [.fn (.func F) [] [.ptr i 0 0,.ptr j 0 0,.ptr k 0 0]]:=
 .cons (.one rfl rfl (.fn _ _ _ _ _ rfl rfl (by simp) (jJ.cons (.ptr i i 0 0 h) (.cons (.ptr j j 0 0 h') (.cons (.ptr k k 0 0 h'') .nil))).2)) .nil
end
def RX(n:Nat):aN:=[(0,cI n),(1,cF (.fn (.func 183) [] [.ptr 0 0 0])),(2,cF (.fn (.func 226) [] [.ptr 1 0 0,.ptr 2 0 0]))]
theorem I8(g:Nat->Nat->Nat)(hg:∀n d,g n d<=max (n+1) d)
  (hsee:∀(v:aT) (d n:Nat),d<=1099511627776->n<=4398046511104->aE prog [] 183 [cK v,.int .i64 d,.ptr 0 0 0] [(0,cI n)] 1 fun r m _=>r = .bool true/\m=[(0,cI (g n d))]) :
  ∀(v:aT) (d n:Nat),d+gW v<=1099511627776->max n (d+gW v)+aY v<=4398046511104 ->
   aE prog [] 226 [cK v,.int .i64 d,.ptr 1 0 0,.ptr 2 0 0] (RX n) 3 fun r m _=>r = .bool true/\m=RX (xS g v d n)
 | .mk vk vn vs ks,d,n,hd,hb=>by
  have ih:∀a∈ks,∀(d n:Nat),d+gW a<=1099511627776->max n (d+gW a)+aY a<=4398046511104->aE prog [] 226 [cK a,.int .i64 d,.ptr 1 0 0,.ptr 2 0 0] (RX n) 3 fun r m _=>r = .bool true/\m=RX (xS g a d n):=
   fun a hm d n h1 h2=>I8 g hg hsee a d n h1 h2
  simp only[gW,aY] at hd hb;have hlen:=uC ks;have hgn:=hg n d;refine aG bB func226 rfl ?_;refine Rr ?_;refine aE.useI bB [0] (hsee (.mk vk vn vs ks) d n (by omega) (by omega)) (by rfl) (.s (.s (.cons (.ptr 0 0 0 0 rfl) .nil))) ⟨aK 0 cZ,trivial⟩ rfl ?_;rintro r m n' ⟨rfl,rfl⟩;refine⟨nn,⟨aK 0 cZ,trivial⟩,rfl, ?_⟩;refine Rr ?_;refine bA.at bB (fun k:Nat=>k<=ks.length)
   (fun k=>⟨[(1,.int .i64 d),(3,.ptr 2 0 0),(15,.il 4 (aS ks)),(16,.int .i64 (aS ks).length),(17,.int .i64 k)],RX (rL g (ks.take k) (d+1) (g n d)),3,28⟩)
   (fun k=>ks.length-k) 0 [(0,0),(1,1),(2,2)] (by simp)
   (aF _ rfl ⟨aK 0 cZ,⟨1,_,rfl,rfl,HP rfl⟩,⟨2,_,rfl,rfl,q9 rfl rfl⟩,trivial⟩ ⟨aJ,aI,aJ,aJ,aJ,trivial⟩) ?_
  intro k hk;have hrl:=FG hg (ks.take k) (d+1) (g n d);refine Rr ?_;refine aD (fun h=>?_) (fun h=>?_)
  ·have hlt:=GE h;obtain⟨a,b,c,e,hm,hg',he,e1⟩:=bZ hlt;have hst:=oC hlt;have hdt:=Ff hlt;rw[he] at hst hdt;have hst':=jE ks (k+1);have hdm:=vU hm;have hdk:eQ (ks.take k)<=eQ ks:=CV ks k;have hrt:=J0 g hlt (d+1) (g n d);rw[he] at hrt;refine Rr ?_;refine aC e1 ?_;refine Rr ?_;rw[w64 (x:=(d:Int)+1) (y:=((d+1:Nat):Int)) (by omega) ⟨by omega,by omega⟩];refine aE.useI bB [0,1,2] (ih _ hm (d+1) (rL g (ks.take k) (d+1) (g n d)) (by omega) (by omega)) (by rfl) (.s (.s (.cons (.ptr 1 1 0 0 rfl) (.cons (.ptr 2 2 0 0 rfl) .nil))))
    ⟨aK 0 cZ,⟨1,_,rfl,rfl,HP rfl⟩,⟨2,_,rfl,rfl,q9 rfl rfl⟩,trivial⟩ rfl ?_
   rintro r m n' ⟨rfl,rfl⟩;refine⟨nn,⟨aK 0 cZ,⟨1,_,rfl,rfl,HP rfl⟩,⟨2,_,rfl,rfl,q9 rfl rfl⟩,trivial⟩,rfl, ?_⟩;rw[←hrt];refine Rr ?_;exact .mk (k+1) [(0,0),(1,1),(2,2)] (by omega)
    (aF _ rfl ⟨aK 0 cZ,⟨1,_,rfl,rfl,HP rfl⟩,⟨2,_,rfl,rfl,q9 rfl rfl⟩,trivial⟩ ⟨aJ,aI,aJ,aJ,⟨_,rfl,.wo⟩,trivial⟩) (by omega)
  ·have hk':k=ks.length:=by have:=G5 h;omega
   refine Rr ?_;refine bJ (n':=3) (m':=RX (rL g (ks.take k) (d+1) (g n d))) [(0,0),(1,1),(2,2)] rfl ⟨aK 0 cZ,⟨1,_,rfl,rfl,HP rfl⟩,⟨2,_,rfl,rfl,q9 rfl rfl⟩,trivial⟩ (.same _ nn) ⟨rfl, ?_⟩;rw[hk',UM,xS]
 termination_by v=>SizeOf.sizeOf v
 decreasing_by simp;have:=VM hm;omega
end Go.Proofs.YtidjhgajglebnaaGreatDoor
namespace Go.Proofs.YtidjhgajglebnaaGreatDoor
open Go Go.Ax Go.Proofs Tryz
set_option maxRecDepth 100000
set_option maxHeartbeats 4000000
section
variable {mem:aN} {σ:List (Nat × Nat)}
theorem QK{F:FuncId}{i i':Nat}(h:lk σ i=some i'):rI mem σ [.fn (.func F) [] [.ptr i 0 0]] [.fn (.func F) [] [.ptr i' 0 0]]:=
 .cons (.one rfl rfl (.fn _ _ _ _ _ rfl rfl (by simp) (jJ.cons (.ptr i i' 0 0 h) .nil).2)) .nil
theorem MH{F:FuncId}{i j i' j':Nat}(h:lk σ i=some i')(h':lk σ j=some j'):rI mem σ [.fn (.func F) [] [.ptr i 0 0,.ptr j 0 0]] [.fn (.func F) [] [.ptr i' 0 0,.ptr j' 0 0]]:=
 .cons (.one rfl rfl (.fn _ _ _ _ _ rfl rfl (by simp) (jJ.cons (.ptr i i' 0 0 h) (.cons (.ptr j j' 0 0 h') .nil)).2)) .nil
theorem RM{F:FuncId}{i j k i' j' k':Nat}(h:lk σ i=some i')(h':lk σ j=some j')(h'':lk σ k=some k'):rI mem σ [.fn (.func F) [] [.ptr i 0 0,.ptr j 0 0,.ptr k 0 0]] [.fn (.func F) [] [.ptr i' 0 0,.ptr j' 0 0,.ptr k' 0 0]]:=
 .cons (.one rfl rfl (.fn _ _ _ _ _ rfl rfl (by simp) (jJ.cons (.ptr i i' 0 0 h) (.cons (.ptr j j' 0 0 h') (.cons (.ptr k k' 0 0 h'') .nil))).2)) .nil
theorem TI{F:FuncId}{i i':Nat}(h:lk σ i=some i'):Cv mem σ (.fn (.func F) [] [.ptr i 0 0]) (.fn (.func F) [] [.ptr i' 0 0]):=
 .fn _ _ _ _ _ rfl rfl (by simp) (jJ.cons (.ptr i i' 0 0 h) .nil).2
theorem TX{F:FuncId}{i j k i' j' k':Nat}(h:lk σ i=some i')(h':lk σ j=some j')(h'':lk σ k=some k'):Cv mem σ (.fn (.func F) [] [.ptr i 0 0,.ptr j 0 0,.ptr k 0 0]) (.fn (.func F) [] [.ptr i' 0 0,.ptr j' 0 0,.ptr k' 0 0]):=
 .fn _ _ _ _ _ rfl rfl (by simp) (jJ.cons (.ptr i i' 0 0 h) (.cons (.ptr j j' 0 0 h') (.cons (.ptr k k' 0 0 h'') .nil))).2
end
theorem TL:∀(v:aT) (d n:Nat),d<=1099511627776->n<=4398046511104->aE prog [] 183 [cK v,.int .i64 d,.ptr 0 0 0] [(0,cI n)] 1 fun r m _=>r = .bool true/\m=[(0,cI (n+1))]
 | .mk vk vn vs ks,d,n,hd,hn=>by
  refine aG bB func183 rfl ?_;refine Rr ?_;exact bJ (n':=1) (m':=[(0,cI (n+1))]) [(0,0)] rfl ⟨⟨0,_,rfl,rfl,.cons (.one rfl rfl (.wo)) .nil⟩,trivial⟩ (.same _ nn) ⟨rfl,rfl⟩
theorem PE:∀(v:aT) (n:Nat),1+gW v<=1099511627776->max n (1+gW v)+aY v<=4398046511104 ->
   aE prog [] 179 [cK v,.fn (.func 183) [] [.ptr 0 0 0]] [(0,cI n)] 1 fun r m _=>r = .tup []/\m=[(0,cI (xS (fun n _=>n+1) v 1 n))]
 | .mk vk vn vs ks,n,hd,hb=>by
  have hw:=I8 (fun n _=>n+1) (fun n d=>by omega) TL (.mk vk vn vs ks) 1 n hd hb;generalize xS (fun n _=>n+1) (.mk vk vn vs ks) 1 n=res at hw;refine aG bB func179 rfl ?_;refine Rr ?_;refine aE.useR bB [(0,0),(2,1),(3,2)] hw (by rfl) (.s (.cons (.int rfl) (.cons (.ptr 2 1 0 0 rfl) (.cons (.ptr 3 2 0 0 rfl) .nil))))
   ⟨aK 0 cZ,⟨2,_,rfl,rfl,QK rfl⟩,⟨3,_,rfl,rfl,MH rfl rfl⟩,trivial⟩ rfl ?_
  rintro r m n' ⟨rfl,rfl⟩;refine⟨[(0,cI res)],nn,⟨aK 0 cZ,trivial⟩,rfl, ?_⟩;refine Rr ?_;exact bJ (n':=1) (m':=[(0,cI res)]) [(0,0)] rfl ⟨aK 0 cZ,trivial⟩ (.same _ nn) ⟨rfl,rfl⟩
theorem Se:∀v:aT,aY v<=1048576->aZ prog [] 109 [cK v] (.int .i64 (aY v))
 | .mk vk vn vs ks,hs=>by
  have hd:=oT (.mk vk vn vs ks);have hw:=PE (.mk vk vn vs ks) 0 (by omega) (by omega);rw[show xS (fun n _=>n+1) (.mk vk vn vs ks) 1 0=aY (.mk vk vn vs ks) by rw[GU];omega] at hw;generalize aY (.mk vk vn vs ks)=res at hw;refine aG bB func109 rfl ?_;refine Rr ?_;refine aE.useR bB [(1,0)] hw (by rfl) (.s (.cons (TI rfl) .nil)) ⟨aK 1 cZ,trivial⟩ rfl ?_;rintro r m n' ⟨rfl,rfl⟩;refine⟨[(1,cI res)],nn,⟨aK 0 cZ,trivial⟩,rfl, ?_⟩;refine Rr ?_;exact aA nn ⟨rfl,rfl,rfl⟩
abbrev VS:=Nat × Bool × Bool
def vC(x:VS):aN:=[(0,cI x.1),(1,cB x.2.1),(2,cB x.2.2)]
def wV(x:VS):aN:=[(0,cI x.1),(1,cB x.2.1),(2,cB x.2.2),(3,cF (.fn (.func 180) [] [.ptr 0 0 0,.ptr 1 0 0,.ptr 2 0 0])),(4,cF (.fn (.func 226) [] [.ptr 3 0 0,.ptr 4 0 0]))]
theorem S6(vk vn:Int)(vs:List UInt8)(ks:List aT)(hs:vs.length<=4294967296)(d:Nat)(x:VS)(hx:x.1<=4398046511104) :
  aE prog [] 180 [cK (.mk vk vn vs ks),.int .i64 d,.ptr 0 0 0,.ptr 1 0 0,.ptr 2 0 0] (vC x) 3 fun r m _=>r = .bool (c8 x (.mk vk vn vs ks) d).1/\m=vC (c8 x (.mk vk vn vs ks) d).2:=by
 obtain⟨n,g,s⟩:=x;have h1:=PM vk vn vs ks hs;have h2:=R1 vk vn vs ks;have hst:c8 (n,g,s) (.mk vk vn vs ks) d=(g && cE vk vn vs ks.length,(n+1,g && cE vk vn vs ks.length,s && tC vk ks.length)):=rfl;generalize cE vk vn vs ks.length=fb at h1 hst;generalize tC vk ks.length=tb at h2 hst;rw[hst];simp only at hx;refine aG bB func180 rfl ?_;cases g<;>cases s
 all_goals
  refine Rr ?_;try(refine h1.go ?_;refine Rr ?_)
  try(refine h2.go ?_;refine Rr ?_)
  exact bJ (n':=3) (m':=vC (n+1,_,_)) [(0,0),(1,1),(2,2)] rfl ⟨⟨0,_,rfl,rfl,.cons (.one rfl rfl (.wo)) .nil⟩,aK 1 cZ,aK 2 cZ,trivial⟩ (.same _ nn) ⟨rfl,rfl⟩
theorem Lt:∀(v:aT) (d:Nat) (x:VS),g5 v->d+gW v<=1099511627776->x.1+aY v<=4398046511104 ->
   aE prog [] 226 [cK v,.int .i64 d,.ptr 3 0 0,.ptr 4 0 0] (wV x) 5 fun r m _=>r = .bool (mJ c8 v d x).1/\m=wV (mJ c8 v d x).2
 | .mk vk vn vs ks,d,x,hok,hd,hb=>by
  simp only[g5] at hok;obtain⟨hv1,hv2,hv3,hv4,hv5⟩:=hok;have ih:∀a∈ks,∀(d:Nat) (x:VS),d+gW a<=1099511627776->x.1+aY a<=4398046511104->aE prog [] 226 [cK a,.int .i64 d,.ptr 3 0 0,.ptr 4 0 0] (wV x) 5 fun r m _=>r = .bool (mJ c8 a d x).1/\m=wV (mJ c8 a d x).2:=
   fun a hm d x h1 h2=>Lt a d x (jC hv5 a hm) h1 h2
  simp only[gW,aY] at hd hb;have hlen:=uC ks;have hsee:=S6 vk vn vs ks hv3 d x (by omega);have hy1:(c8 x (.mk vk vn vs ks) d).2.1=x.1+1:=rfl;generalize hst0:c8 x (.mk vk vn vs ks) d=st at hsee hy1;obtain⟨b,y⟩:=st;simp only at hy1;refine aG bB func226 rfl ?_;refine Rr ?_;refine aE.useI bB [0,1,2] hsee (by rfl) (.s (.s (.cons (.ptr 0 0 0 0 rfl) (.cons (.ptr 1 1 0 0 rfl) (.cons (.ptr 2 2 0 0 rfl) .nil))))) ⟨aK 0 cZ,aK 1 cZ,aK 2 cZ,trivial⟩ rfl ?_;rintro r m n' ⟨rfl,rfl⟩;refine⟨nn,⟨aK 0 cZ,aK 1 cZ,aK 2 cZ,trivial⟩,rfl, ?_⟩;cases b with
  | false=>
   refine Rr ?_;refine bJ (n':=5) (m':=wV y) [(0,0),(1,1),(2,2),(3,3),(4,4)] rfl ⟨aK 0 cZ,aK 1 cZ,aK 2 cZ,⟨3,_,rfl,rfl,BX rfl rfl rfl⟩,⟨4,_,rfl,rfl,q9 rfl rfl⟩,trivial⟩ (.same _ nn) ?_;have hvis:mJ c8 (.mk vk vn vs ks) d x=(false,y):=by rw[mJ,hst0]
   rw[hvis];exact⟨rfl,rfl⟩
  | true=>
   have hvis:mJ c8 (.mk vk vn vs ks) d x=nM c8 ks (d+1) y:=by rw[mJ,hst0]
   refine Rr ?_;refine bA.at bB (fun a:Nat × VS=>a.1<=ks.length/\nM c8 (ks.take a.1) (d+1) y=(true,a.2))
    (fun a=>⟨[(1,.int .i64 d),(3,.ptr 4 0 0),(15,.il 4 (aS ks)),(16,.int .i64 (aS ks).length),(17,.int .i64 a.1)],wV a.2,5,28⟩)
    (fun a=>ks.length-a.1) (0,y) [(0,0),(1,1),(2,2),(3,3),(4,4)] ⟨by simp,rfl⟩
    (aF _ rfl ⟨aK 0 cZ,aK 1 cZ,aK 2 cZ,⟨3,_,rfl,rfl,BX rfl rfl rfl⟩,⟨4,_,rfl,rfl,q9 rfl rfl⟩,trivial⟩ ⟨aJ,aI,aJ,aJ,aJ,trivial⟩) ?_
   rintro⟨k,z⟩ ⟨hk,hz⟩;simp only at hk hz;have hcnt:=CG (ks.take k) (d+1) y;rw[hz] at hcnt;simp only at hcnt;refine Rr ?_;refine aD (fun h=>?_) (fun h=>?_)
   ·have hlt:k<ks.length:=GE h;obtain⟨a,b,c,e,hm,hg',he,e1⟩:=bZ hlt;have hst:=oC hlt;rw[he] at hst;have hst':=jE ks (k+1);have hdm:=vU hm;have hnext:=Jy c8 hlt (d+1) y z hz;rw[he] at hnext;have hb2:z.1+aY (.mk a b c e)<=4398046511104:=by omega
    have hih:=ih _ hm (d+1) z (by omega) hb2;generalize mJ c8 (.mk a b c e) (d+1) z=st2 at hih hnext;obtain⟨b2,z2⟩:=st2;refine Rr ?_;refine aC e1 ?_;refine Rr ?_;rw[w64 (x:=(d:Int)+1) (y:=((d+1:Nat):Int)) (by omega) ⟨by omega,by omega⟩];refine aE.useI bB [0,1,2,3,4] hih (by rfl) (.s (.s (.cons (.ptr 3 3 0 0 rfl) (.cons (.ptr 4 4 0 0 rfl) .nil))))
     ⟨aK 0 cZ,aK 1 cZ,aK 2 cZ,⟨3,_,rfl,rfl,BX rfl rfl rfl⟩,⟨4,_,rfl,rfl,q9 rfl rfl⟩,trivial⟩ rfl ?_
    rintro r m n' ⟨rfl,rfl⟩;refine⟨nn,⟨aK 0 cZ,aK 1 cZ,aK 2 cZ,⟨3,_,rfl,rfl,BX rfl rfl rfl⟩,⟨4,_,rfl,rfl,q9 rfl rfl⟩,trivial⟩,rfl, ?_⟩;cases b2 with
    | false=>
     refine Rr ?_;refine bJ (n':=5) (m':=wV z2) [(0,0),(1,1),(2,2),(3,3),(4,4)] rfl ⟨aK 0 cZ,aK 1 cZ,aK 2 cZ,⟨3,_,rfl,rfl,BX rfl rfl rfl⟩,⟨4,_,rfl,rfl,q9 rfl rfl⟩,trivial⟩ (.same _ nn) ?_;have:=Dz c8 (m:=ks.drop (k+1)) hnext;rw[Ug] at this;rw[hvis,this];exact⟨rfl,rfl⟩
    | true=>
     refine Rr ?_;exact .mk (k+1,z2) [(0,0),(1,1),(2,2),(3,3),(4,4)] ⟨by simp only;omega,hnext⟩
      (aF _ rfl ⟨aK 0 cZ,aK 1 cZ,aK 2 cZ,⟨3,_,rfl,rfl,BX rfl rfl rfl⟩,⟨4,_,rfl,rfl,q9 rfl rfl⟩,trivial⟩ ⟨aJ,aI,aJ,aJ,⟨_,rfl,.wo⟩,trivial⟩) (by simp only;omega)
   ·have hk':k=ks.length:=by have:=G5 h;omega
    refine Rr ?_;refine bJ (n':=5) (m':=wV z) [(0,0),(1,1),(2,2),(3,3),(4,4)] rfl ⟨aK 0 cZ,aK 1 cZ,aK 2 cZ,⟨3,_,rfl,rfl,BX rfl rfl rfl⟩,⟨4,_,rfl,rfl,q9 rfl rfl⟩,trivial⟩ (.same _ nn) ?_;rw[hk',UM] at hz;rw[hvis,hz];exact⟨rfl,rfl⟩
 termination_by v=>SizeOf.sizeOf v
 decreasing_by simp;have:=VM hm;omega
theorem PF:∀(v:aT) (x:VS),g5 v->1+gW v<=1099511627776->x.1+aY v<=4398046511104 ->
   aE prog [] 179 [cK v,.fn (.func 180) [] [.ptr 0 0 0,.ptr 1 0 0,.ptr 2 0 0]] (vC x) 3 fun r m _=>r = .tup []/\m=vC (mJ c8 v 1 x).2
 | .mk vk vn vs ks,x,hok,hd,hb=>by
  have hw:=Lt (.mk vk vn vs ks) 1 x hok hd hb;generalize mJ c8 (.mk vk vn vs ks) 1 x=st at hw;obtain⟨b,y⟩:=st;refine aG bB func179 rfl ?_;refine Rr ?_;refine aE.useR bB [(0,0),(1,1),(2,2),(4,3),(5,4)] hw (by rfl) (.s (.cons (.int rfl) (.cons (.ptr 4 3 0 0 rfl) (.cons (.ptr 5 4 0 0 rfl) .nil))))
   ⟨aK 0 cZ,aK 1 cZ,aK 2 cZ,⟨4,_,rfl,rfl,RM rfl rfl rfl⟩,⟨5,_,rfl,rfl,MH rfl rfl⟩,trivial⟩ rfl ?_
  rintro r m n' ⟨rfl,rfl⟩;refine⟨[(0,cI y.1),(1,cB y.2.1),(2,cB y.2.2)],nn,⟨aK 0 cZ,aK 1 cZ,aK 2 cZ,trivial⟩,rfl, ?_⟩;refine Rr ?_;exact bJ (n':=3) (m':=vC y) [(0,0),(1,1),(2,2)] rfl ⟨aK 0 cZ,aK 1 cZ,aK 2 cZ,trivial⟩ (.same _ nn) ⟨rfl,rfl⟩
theorem E1:∀v:aT,g5 v->aY v<=1048576->aZ prog [] 107 [cK v] (.int .i64 (bS v))
 | .mk vk vn vs ks,hok,hs=>by
  have hd:=oT (.mk vk vn vs ks);have hw:=PF (.mk vk vn vs ks) (0,true,true) hok (by omega) (by simp only;omega);have hval:=LG (.mk vk vn vs ks);generalize bS (.mk vk vn vs ks)=res at hval;generalize (mJ c8 (.mk vk vn vs ks) 1 (0,true,true)).2=y at hw hval;obtain⟨n,g,s⟩:=y;simp only at hval;refine aG bB func107 rfl ?_;refine Rr ?_;refine aE.useR bB [(1,0),(2,1),(3,2)] hw (by rfl) (.s (.cons (TX rfl rfl rfl) .nil)) ⟨aK 1 cZ,aK 2 cZ,aK 3 cZ,trivial⟩ rfl ?_;rintro r m n' ⟨rfl,rfl⟩;refine⟨[(1,cI n),(2,cB g),(3,cB s)],nn,⟨aK 0 cZ,aK 1 cZ,aK 2 cZ,trivial⟩,rfl, ?_⟩;cases g with
  | false=>
   refine Rr ?_;refine aA nn ⟨?_,rfl,rfl⟩;rw[←hval];rfl
  | true=>
   cases s with
   | false=>
    refine Rr ?_;refine aA nn ⟨?_,rfl,rfl⟩;rw[←hval];simp
   | true=>
    refine Rr ?_;refine aD (fun h=>?_) (fun h=>?_)
    ·refine Rr ?_;refine aA nn ⟨?_,rfl,rfl⟩;rw[←hval,T5 (by simp),T7 (by simp at h;omega)]
    ·refine Rr ?_;refine aA nn ⟨?_,rfl,rfl⟩;rw[←hval,T5 (by simp),T5 (by simp at h;simp;omega)]
end Go.Proofs.YtidjhgajglebnaaGreatDoor
namespace Go.Proofs.YtidjhgajglebnaaGreatDoor
open Go Go.Ax Go.Proofs Tryz
set_option maxRecDepth 100000
set_option maxHeartbeats 4000000
theorem Oj(s:List UInt8)(v1 v2:Int)(v3:List UInt8)(v4:List aT)(hn:i64 v2)(hs:s.length<=90000000):aE prog [] 250 [.ptr 0 0 0,cK (.mk v1 v2 v3 v4)] (wM s) 2 (Jl (s++fM v2)):=by
 have hI:=Q3 s v2 hn hs;generalize fM v2=w at hI ⊢;refine aG bB func250 rfl ?_;refine Rr ?_;refine y8 1 bB hI rfl rfl rfl rfl ?_;refine Rr ?_;exact o7 (i:=9) rfl rfl (by omega) rfl rfl
theorem Qu(s:List UInt8)(v1 v2:Int)(v3:List UInt8)(v4:List aT)(hs:s.length<=90000000):aE prog [] 251 [.ptr 0 0 0,cK (.mk v1 v2 v3 v4)] (wM s) 2 (Jl (s++[if v2=1 then 1 else 0])):=by
 have hB:=Ro s (v2 == 1) hs;have e:(if (v2 == 1)=true then(1:UInt8) else 0)=if v2=1 then 1 else 0:=by simp
 rw[e] at hB;generalize (if v2=1 then(1:UInt8) else 0)=w at hB ⊢;refine aG bB func251 rfl ?_;refine Rr ?_;refine y8 1 bB hB rfl rfl rfl rfl ?_;refine Rr ?_;exact o7 (i:=10) rfl rfl (by omega) rfl rfl
theorem Pc(s:List UInt8)(v1 v2:Int)(v3:List UInt8)(ks:List aT)(hok:o9 ks)(hf:cC ks=true)(hs:s.length+60*bO ks+10<=80000000)
  (ih:∀v∈ks,∀s:List UInt8,s.length+60*aY v<=80000000->aE prog [] 193 [.ptr 0 0 0,cK v] (wM s) 2 (Jl (s++fJ v))) :
  aE prog [] 252 [.ptr 0 0 0,cK (.mk v1 v2 v3 ks)] (wM s) 2 (Jl (s++(fM ks.length++fD ks))):=by
 have hkl:=uC ks;have hI:=Q3 s ks.length (BB (by omega)) (by omega);have hil:=oB (BB (n:=ks.length) (by omega));generalize fM ks.length=w0 at hI hil ⊢;have hlen:((aS ks).length:Int)=ks.length:=by rw[aB]
 refine aG bB func252 rfl ?_;refine Rr ?_;rw[hlen];refine y8 1 bB hI rfl rfl rfl rfl ?_;refine Rr ?_;refine bA.at bB (fun k:Nat=>k<=ks.length)
  (fun k=>⟨[(0,.ptr 0 0 0),(14,.il 4 (aS ks)),(15,.int .i64 ks.length),(16,.int .i64 k)],[(0,wC 2 (s++(w0++fD (ks.take k))).length),(2,.row 5 1 (kI (s++(w0++fD (ks.take k)))))],3,24⟩) (fun k=>ks.length-k) 0 [(0,0),(10,2)] (by simp)
  (aF _ rfl ⟨⟨0,_,rfl,rfl,rD rfl (by simp[fD])⟩,⟨10,_,rfl,rfl,.eq (Go.Ax.f9 _) (by simp[fD])⟩,trivial⟩ ⟨aI,aJ,⟨_,rfl,.int hlen⟩,aJ,trivial⟩) ?_
 intro k hk;refine Rr ?_;refine aD (fun h=>?_) (fun h=>?_)
 ·have hlt:k<ks.length:=by simpa using h
  obtain⟨a,b,c,d,hm,hg,he,e1⟩:=bZ hlt;have hih:=ih _ hm;have hpt:=Hw hlt;rw[he] at hpt;have hbound:=zA (ks.take k) (Ki hok _) (DJ hf _);have hsz:=jE ks (k+1);rw[oC hlt,he] at hsz;generalize fJ (.mk a b c d)=pv at hih hpt;obtain⟨pl,hpl⟩:∃pl,pl=fD (ks.take k):=⟨_,rfl⟩
  rw[←hpl] at hpt hbound ⊢;refine Rr ?_;refine aC e1 ?_;refine Rr ?_;refine y8 2 bB (hih (s++(w0++pl)) (by simp;omega)) rfl rfl rfl rfl ?_;refine Rr ?_;have hnx:s++(w0++pl)++pv=s++(w0++fD (ks.take (k+1))):=by rw[hpt];simp
  exact .mk (k+1) [(0,0),(4,2)] (by omega) (aF _ rfl ⟨⟨0,_,rfl,rfl,rD rfl (by rw[hnx])⟩,⟨4,_,rfl,rfl,.eq (Go.Ax.f9 _) (by rw[hnx])⟩,trivial⟩ ⟨aI,aJ,aJ,⟨_,rfl,.wo⟩,trivial⟩) (by omega)
 ·have hke:k=ks.length:=by simp at h;omega
  subst hke;rw[UM];refine Rr ?_;exact o7 (i:=2) rfl rfl (by omega) rfl rfl
theorem Sr(s:List UInt8)(v1 v2:Int)(v3:List UInt8)(ks:List aT)(hok:o9 ks)(hf:cC ks=true)(hv3:v3.length<=16)(hs:s.length+60*bO ks+40<=80000000)
  (ih:∀v∈ks,∀s:List UInt8,s.length+60*aY v<=80000000->aE prog [] 193 [.ptr 0 0 0,cK v] (wM s) 2 (Jl (s++fJ v))) :
  aE prog [] 253 [.ptr 0 0 0,cK (.mk v1 v2 v3 ks)] (wM s) 2 (Jl (s++((kV v3.length++v3)++(fM ks.length++fD ks)))):=by
 have hT:=R2 s v3 (by omega);have hul:=n7 (n:=v3.length) (by omega);have hL:=Pc (s++(kV v3.length++v3)) v1 v2 v3 ks hok hf (by simp;omega) ih;generalize kV v3.length++v3=w at hT hL ⊢;generalize fM ks.length++fD ks=w' at hL ⊢;refine aG bB func253 rfl ?_;refine Rr ?_;refine y8 1 bB hT rfl rfl rfl rfl ?_;refine Rr ?_;refine y8 9 bB hL rfl rfl rfl rfl ?_;refine Rr ?_;rw[←Ur];exact o7 (i:=10) rfl rfl (by omega) rfl rfl
def Es:AV:=.agg [.fn (.func 250) [.ptr 0 0 0] [],.fn (.func 251) [.ptr 0 0 0] [],.fn (.func 252) [.ptr 0 0 0] [],.fn (.func 253) [.ptr 0 0 0] []]
theorem Ij{mem:aN}{σ:List (Nat × Nat)}{f:Fn}(h:lk σ 0=some 0):Cv mem σ (.fn f [.ptr 0 0 0] []) (.fn f [.ptr 0 0 0] []):=
 .fn f _ _ _ _ rfl rfl (jJ.cons (.ptr 0 0 0 0 h) .nil).2 (jJ.nil).2
theorem Gi{mem:aN}{σ:List (Nat × Nat)}(h:lk σ 0=some 0):Cv mem σ Es Es:=.agg' (.cons (Ij h) (.cons (Ij h) (.cons (Ij h) (.cons (Ij h) .nil))))
theorem Qv(s:List UInt8):aE prog [] 233 [.ptr 0 0 0] (wM s) 2 fun r m n=>r=Es/\m=wM s/\n=2:=by
 refine aG bB func233 rfl ?_;refine Rr ?_;exact bJ (r':=Es) (m':=wM s) (n':=2) [(0,0),(1,1)] rfl ⟨⟨0,_,rfl,rfl,rD rfl rfl⟩,aK 1 (Go.Ax.f9 _),trivial⟩ (Gi rfl) ⟨rfl,rfl,rfl⟩
theorem LQ:∀(v:aT) (s:List UInt8),g5 v->bI v=true->s.length+60*aY v<=80000000->aE prog [] 193 [.ptr 0 0 0,cK v] (wM s) 2 (Jl (s++fJ v))
 | .mk k n t ks,s,ho,hf,hs=>by
  simp only[g5] at ho;obtain⟨hv1,hv2,hv3,hv4,hv5⟩:=ho;simp only[bI,Tz] at hf;obtain⟨hf1,hf2⟩:=hf;simp only[aY] at hs;have ih:∀v∈ks,∀s:List UInt8,s.length+60*aY v<=80000000->aE prog [] 193 [.ptr 0 0 0,cK v] (wM s) 2 (Jl (s++fJ v)):=fun v hm s h=>
   LQ v s (jC hv5 v hm) (p9 hf2 hm) h
  have hI:=Q3 s k hv1 (by omega);have hil:=oB hv1;rw[fJ];obtain⟨w0,hw0⟩:∃w0,w0=fM k:=⟨_,rfl⟩
  rw[←hw0] at hI hil ⊢;unfold cE at hf1;refine aG bB func193 rfl ?_;refine Rr ?_;refine y8 1 bB hI rfl rfl rfl rfl ?_;refine Rr ?_;refine aE.useN bB [(0,0),(9,1)] (Qv (s++w0)) rfl (.cons (.ptr 0 0 0 0 rfl) .nil) ⟨⟨0,_,rfl,rfl,rD rfl rfl⟩,aK 9 (Go.Ax.f9 _),trivial⟩ rfl ?_;rintro r m n' ⟨rfl,rfl,rfl⟩;refine⟨[(0,0),(1,9)],_,[(0,wC 9 (s++w0).length),(9,.row 5 1 (kI (s++w0)))],17,Gi rfl,⟨⟨0,_,rfl,rfl,rD rfl rfl⟩,aK 1 (Go.Ax.f9 _),trivial⟩,rfl, ?_⟩;by_cases k0:k=0
  ·subst k0;have hC:=Oj (s++w0) 0 n t ks hv2 (by simp;omega);rw[T7 rfl];generalize fM n=w at hC ⊢;refine Rt ?_;refine y8 9 bB hC rfl rfl rfl rfl ?_;refine Rr ?_;rw[←Ur];exact o7 (i:=17) rfl rfl (by omega) rfl rfl
  ·rw[T5 k0] at hf1 ⊢;by_cases k1:k=1
   ·subst k1;have hC:=Qu (s++w0) 1 n t ks (by simp;omega);rw[T7 rfl];generalize [if n=1 then(1:UInt8) else 0]=w at hC ⊢;refine Rt ?_;refine y8 9 bB hC rfl rfl rfl rfl ?_;refine Rr ?_;rw[←Ur];exact o7 (i:=17) rfl rfl (by omega) rfl rfl
   ·rw[T5 k1] at hf1 ⊢;by_cases k2:k=2
    ·subst k2;have hC:=Pc (s++w0) 2 n t ks hv5 hf2 (by simp;omega) ih;rw[T5 (by omega),Um];generalize fM ks.length++fD ks=w at hC ⊢;refine Rt ?_;refine y8 9 bB hC rfl rfl rfl rfl ?_;refine Rr ?_;rw[←Ur];exact o7 (i:=17) rfl rfl (by omega) rfl rfl
    ·rw[T5 k2] at hf1;by_cases k3:k=3
     ·subst k3;rw[T7 rfl] at hf1 ⊢;have ht:t.length<=16:=by
       rcases UG 16 t.length with h|h
       ·rw[kN h] at hf1;simp at hf1
       ·exact h
      have hC:=Sr (s++w0) 3 n t ks hv5 hf2 ht (by simp;omega) ih;generalize kV t.length++t++(fM ks.length++fD ks)=w at hC ⊢;refine Rt ?_;refine y8 9 bB hC rfl rfl rfl rfl ?_;refine Rr ?_;rw[←Ur];exact o7 (i:=17) rfl rfl (by omega) rfl rfl
     ·rw[T5 k3] at hf1;cases hf1
theorem R7(s:List UInt8)(hs:s.length<=90000000):aE prog [] 194 [.ptr 0 0 0] (wM s) 2 fun r m n=>r = .il 1 (kI s)/\m=[]/\n=2:=by
 refine aG bB func194 rfl ?_;refine Rr ?_;have lT:=gQ s;have eT:List.take s.length (List.drop 0 (kI s))=kI s:=by rw[Ub,UB (by rw[lT];omega)]
 refine aM (Hy (by rw[lT];omega)) ?_;rw[eT];refine Rr ?_;refine aM (bT rfl rfl rfl (by rw[lT];simp;omega)) ?_;refine Rr ?_;exact bJ (r':=.il 1 (kI s)) (m':=[]) (n':=2) [] rfl trivial (.fz' rfl rfl (by simp) (by simp) (Go.Ax.f9 _)) ⟨rfl,rfl,rfl⟩
theorem O0:∀v:aT,g5 v->aY v<=1000000->aZ prog [] 132 [cK v] (.tup [if bS v=0 then .il 1 (kI (fJ v)) else .nsl,.int .i64 (bS v)])
 | .mk v1 v2 v3 v4,ho,hs=>by
  have hV:=E1 (.mk v1 v2 v3 v4) ho (by omega);obtain⟨e,he⟩:∃e,e=bS (.mk v1 v2 v3 v4):=⟨_,rfl⟩
  rw[←he] at hV ⊢;refine aG bB func132 rfl ?_;refine Rr ?_;refine hV.go ?_;by_cases h0:e=0
  ·subst h0;rw[T7 rfl];have hf:=(Ck he.symm).1;have hX:=LQ (.mk v1 v2 v3 v4) [] ho hf (by simp;omega);have hpl:=Gf _ ho hf;generalize fJ (.mk v1 v2 v3 v4)=w at hX hpl ⊢;have hwl:w.length<=50000000:=by omega
   refine Rr ?_;refine aE.ph 5 1 ?_;refine aE.useN bB [(1,0),(2,1)] hX rfl (.cons (.ptr 1 0 0 0 rfl) (.same cZ)) ⟨⟨1,_,rfl,rfl,.cons (.agg (.cons (.nslk 2 1 _ rfl rfl) .nil)) .nil⟩,aK 2 .nil,trivial⟩ rfl ?_;rintro r m n ⟨rfl,rfl,rfl⟩;rw[Um];refine⟨[(0,1),(2,3)],_,[(1,wC 3 w.length),(3,.row 5 1 (kI w))],4,.same _ nn,⟨⟨0,_,rfl,rfl,rD rfl rfl⟩,aK 2 (Go.Ax.f9 _),trivial⟩,rfl, ?_⟩;refine Rr ?_;refine aE.useN bB [(1,0),(3,1)] (R7 w (by omega)) rfl (.cons (.ptr 1 0 0 0 rfl) .nil) ⟨⟨1,_,rfl,rfl,rD rfl rfl⟩,aK 3 (Go.Ax.f9 _),trivial⟩ rfl ?_;rintro r m n ⟨rfl,rfl,rfl⟩;refine⟨[],_,[],4,.same _ (.il' (Go.Ax.f9 _)),trivial,rfl, ?_⟩;refine Rr ?_;exact aA (.tup' (.cons (.il' (Go.Ax.f9 _)) (.cons (.int _ _) .nil))) ⟨rfl,rfl,rfl⟩
  ·have d1:(e != 0)=true:=by simpa using h0
   rw[T5 h0];refine Rr ?_;rw[d1];refine Rr ?_;exact aA nn ⟨rfl,rfl,rfl⟩
set_option maxHeartbeats 16000000
theorem eD.joinC{P:Program}{Γ:List (Nat × AV)}{B:Nat}{α:Type}{rest:Code}{Q:Exit->St->Prop}{G:Prop}(hΓ:∀p∈Γ,NN p.2)(R:α->Prop)(J:α->St)
  (h1:(∀(a:α) (s:St) (σ:List (Nat × Nat)),R a->Conv B σ s (J a)->eD P Γ B rest s Q)->G) (h2:∀a,R a->eD P Γ B rest (J a) Q):G:=h1 fun a s σ hr hc=>eD.conv hΓ hc (h2 a hr)
theorem S0(b c:Bool)(l:List Nat):NN (.agg [.bool b,.il 1 (bM l),.bool c]):=.agg' (.cons (tB _) (.cons (tU _) (.cons (tB _) .nil)))
theorem Pq{mem:aN}{id:Nat}{A:List Nd}{L:List Key}{k:Key}(hL:∀q∈L,f7 q)(hk:f7 k)(hm:lk mem id=some (.mapb (oY gY aR A L))) :
  tK prog mem 148 (.mp id) (sN k) true=some (if uM L k=true then .tup [gY (GF aR A k),.bool true] else .tup [.agg [.bool false,.nsl,.bool false],.bool false]):=by
 have key:(match iF prog 152 (sN k) (oY gY aR A L) 0 with
     | some (some (_,v))=>some (AV.tup [v,.bool true])
     | some none=>some (AV.tup [.agg [.bool false,.nsl,.bool false],.bool false])
     | none=>none)=some (if uM L k=true then .tup [gY (GF aR A k),.bool true] else .tup [.agg [.bool false,.nsl,.bool false],.bool false]):=by
  cases h:uM L k with
  | false=>rw[xJ L 0 h];rfl
  | true=>obtain⟨j,hj,-⟩:=tP hk L 0 hL h;rw[hj];rfl
 have u:Tryz.prog.underlying 148=some (.map 152 79):=rfl;have ak:HL prog 152 (sN k)=true:=by
  unfold sN;generalize Cp k.2=c;rfl
 have z:lK prog 79=some (.agg [.bool false,.nsl,.bool false]):=rfl;unfold tK;simp only[u,ak,hm,z];exact key
def Pr:Code->Bool
 | .block _ _=>true
 | .seq _ b=>Pr b
 | _=>false
def Ca:Code->Code
 | .seq a y=>match Pr a with
  | true=>y
  | false=>Ca y
 | c=>c
def M2(f:Func):Code:=match f.body with
 | some c=>Ca c
 | none=>.skip
def Nz(A:List Nd)(o:Option Nat):AV->aN->Nat->Prop:=fun r m k=>∃L',(∀q∈L',f7 q)/\r=gY o/\m=q7 A L'/\k=2
def S1(A:List Nd)(i:Nat):Prop:=∀(L:List Key) (v:aT),(∀q∈L,f7 q)->g5 v->aY v<=1000000->aE prog [] 83 [.ptr 0 0 0,.int .i64 i,cK v] (q7 A L) 2 (Nz A ((bP aR).of A i v))
def jW(A:List Nd)(i:Nat)(w:List UInt8)(res:Option Nat)(a:List Key):St:=⟨[(0,.ptr 0 0 0),(6,.ptr 2 0 0),(9,.ptr 3 0 0),(13,.ptr 4 0 0)],[(0,.row 150 8 [IP A 1]),(1,.mapb (oY gY aR A a)),(2,.row 79 3 [.agg [.bool false,.nsl,.bool false]]),(3,.row 152 2 [.agg [.int .i64 i,.str w]]),(4,.row 79 3 [gY res])],5,215⟩
theorem vE{A:List Nd}{i:Nat}{w:List UInt8}{res:Option Nat}{a:List Key}{s:St}{y:AV}{ia ib ic:Nat}{σ:List (Nat × Nat)}(hnt:s.nt=215)(t0:lk σ 0=some 0)(t1:lk σ 1=some 1)(ta:lk σ ia=some 2)(tb:lk σ ib=some 3)(tc:lk σ ic=some 4)(m0:lk s.mem 0=some (.row 150 8 [IP A 1]))(m1:lk s.mem 1=some (.mapb (oY gY aR A a)))
  (m2:lk s.mem ia=some (.row 79 3 [.agg [.bool false,.nsl,.bool false]])) (m3:lk s.mem ib=some (.row 152 2 [.agg [.int .i64 i,.str w]])) (m4:lk s.mem ic=some (.row 79 3 [y]))
  (hy:D1 s.mem σ y (gY res)) (s0:lk s.sl 0=some (.ptr 0 0 0)) (s6:lk s.sl 6=some (.ptr ia 0 0)) (s9:lk s.sl 9=some (.ptr ib 0 0)) (s13:lk s.sl 13=some (.ptr ic 0 0))
  (hc:(rG σ && (rF (jW A i w res a).mem && (uY 2 5 σ && Nat.ble 2 5)))=true):Conv 2 σ s (jW A i w res a):=by
 obtain⟨sl,mem,nx,nt⟩:=s;simp only at hnt m0 m1 m2 m3 m4 s0 s6 s9 s13 hy;subst hnt;exact aF _ hc ⟨⟨0,_,t0,m0,.cons (qH t1) .nil⟩,⟨1,_,t1,m1,qG c9 a⟩,⟨ia,_,ta,m2,.same (.cons (.agg' (.cons (tB _) (.cons .nsl (.cons (tB _) .nil)))) .nil)⟩,⟨ib,_,tb,m3,.same (.cons (.agg' (.cons nn (.cons nn .nil))) .nil)⟩,⟨ic,_,tc,m4,.cons hy .nil⟩,trivial⟩
  ⟨⟨_,s0,.ptr 0 0 0 0 t0⟩,⟨_,s6,.ptr ia 2 0 0 ta⟩,⟨_,s9,.ptr ib 3 0 0 tb⟩,⟨_,s13,.ptr ic 4 0 0 tc⟩,trivial⟩
theorem Ei{mem:aN}{σ:List (Nat × Nat)}:D1 mem σ (.agg [.bool false,.nsl,.bool false]) (gY none):=.agg (.cons (.same _ (tB _)) (.cons (.nil 1) (.cons (.same _ (tB _)) .nil)))
theorem KO{mem:aN}{σ:List (Nat × Nat)}(n:Nat):D1 mem σ (.agg [.bool false,.il 1 (bM (dg 4294967296 n)),.bool true]) (gY (some n)):=.agg (.cons (.same _ (tB _)) (.cons (.same _ (tU _)) (.cons (.same _ (tB _)) .nil)))
theorem Bh(o:Option Nat):∃x b,gY o = .agg [.bool false,.il 1 x,.bool b]:=by cases o<;>exact⟨_,_,rfl⟩
theorem zT{mem:aN}{σ:List (Nat × Nat)}(x:List AV)(b:Bool)(h:NN (.agg [.bool false,.il 1 x,.bool b])):D1 mem σ (.agg [.bool false,.il 1 x,.bool b]) (.agg [.bool false,.il 1 x,.bool b]):=.same h
theorem Aw{o:Option Nat}(h:sF o):sF (dI aR (some 1) o):=by
 obtain⟨n,hn,rfl⟩:=h;rw[pO];exact⟨n,hn,rfl⟩
theorem KQ(o:Option Nat):gK aR o none=o:=by cases o<;>rfl
theorem Hj(o:Option Nat):dI aR o none=none:=by cases o<;>rfl
theorem Fu{g a b:Option Nat}(hg:sF g)(ha:sF a)(hb:sF b)(h:sF (gK aR g (dI aR a b))):sF (dI aR a b):=by
 obtain⟨n,-,rfl⟩:=ha;obtain⟨m,-,rfl⟩:=hb;obtain⟨q,-,rfl⟩:=hg;exact h.of_plus ⟨_,gX _ _⟩ ⟨_,rfl⟩
theorem Dh{A:List Nd}{j:Nat}(ih:S1 A j){L:List Key}{v:aT}{r:AV}{mem:aN}{nx:Nat}{K:AV->aN->Nat->Prop}(hL:∀q∈L,f7 q)(ho:g5 v)(hz:aY v<=1000000)(hp:kU [0,1] mem=q7 A L)(er:gY ((bP aR).of A j v)=r)
  (hk:∀L',(∀q∈L',f7 q)->K r (q7 A L'++iZ [0,1] mem) nx):aE prog [] 83 [.ptr 0 0 0,.int .i64 j,cK v] mem nx K:=by
 subst er;refine aE.useI bB [0,1] (ih L v hL ho hz) hp (.cons (.ptr 0 0 0 0 rfl) (.s (.cons (.same _ (dZ v)) .nil))) (cR (i:=0) (j:=1) rfl rfl rfl rfl) rfl ?_;rintro r m k ⟨L',h1,rfl,rfl,rfl⟩;exact⟨c9 _,cR (i:=0) (j:=1) rfl rfl rfl rfl,rfl,hk L' h1⟩
theorem EP{A:List Nd}{L:List Key}{a b:Option Nat}(ha:sF a)(hb:sF b)(h:sF (dI aR a b)){x y r:AV}{mem:aN}{nx:Nat}{K:AV->aN->Nat->Prop}(ea:gY a=x)(eb:gY b=y)(er:gY (dI aR a b)=r)(hp:kU [0,1] mem=q7 A L)
  (hk:K r (q7 A L++iZ [0,1] mem) nx):aE prog [] 81 [.ptr 0 0 0,x,y] mem nx K:=by
 subst ea eb er;refine aE.useI bB [0,1] (Qo L a b ha hb h) hp (.cons (.ptr 0 0 0 0 rfl) (.cons (.same _ (c9 a)) (.cons (.same _ (c9 b)) .nil))) (cR (i:=0) (j:=1) rfl rfl rfl rfl) rfl ?_;rintro r m k ⟨rfl,rfl,rfl⟩;exact⟨c9 _,cR (i:=0) (j:=1) rfl rfl rfl rfl,rfl,hk⟩
theorem I2{A:List Nd}{L:List Key}{a b:Option Nat}(ha:sF a)(hb:sF b)(h:sF (gK aR a b)){x y r:AV}{mem:aN}{nx:Nat}{K:AV->aN->Nat->Prop}(ea:gY a=x)(eb:gY b=y)(er:gY (gK aR a b)=r)(hp:kU [0,1] mem=q7 A L)
  (hk:K r (q7 A L++iZ [0,1] mem) nx):aE prog [] 82 [.ptr 0 0 0,x,y] mem nx K:=by
 subst ea eb er;refine aE.useI bB [0,1] (Re L a b ha hb h) hp (.cons (.ptr 0 0 0 0 rfl) (.cons (.same _ (c9 a)) (.cons (.same _ (c9 b)) .nil))) (cR (i:=0) (j:=1) rfl rfl rfl rfl) rfl ?_;rintro r m k ⟨rfl,rfl,rfl⟩;exact⟨c9 _,cR (i:=0) (j:=1) rfl rfl rfl rfl,rfl,hk⟩
def RI(A:List Nd)(i:Nat)(w:List UInt8)(v:aT)(a:List Key)(o:Option Nat):aN:=[(0,.row 150 8 [IP A 1]),(1,.mapb (oY gY aR A a)),(2,.row 55 4 [cK v]),(3,.row 79 3 [.agg [.bool false,.nsl,.bool false]]),(4,.row 152 2 [.agg [.int .i64 i,.str w]]),(5,.row 79 3 [gY o])]
theorem vR{A:List Nd}{i:Nat}{w:List UInt8}{v:aT}{a:List Key}{o:Option Nat}{mem:aN}{σ:List (Nat × Nat)}{ib ic id ie:Nat}{y:AV}(s0:lk σ 0=some 0)(s1:lk σ 1=some 1)(sb:lk σ ib=some 2)(sc:lk σ ic=some 3)(sd:lk σ id=some 4)(se:lk σ ie=some 5)(m0:lk mem 0=some (.row 150 8 [IP A 1]))(m1:lk mem 1=some (.mapb (oY gY aR A a)))
  (m2:lk mem ib=some (.row 55 4 [cK v])) (m3:lk mem ic=some (.row 79 3 [.agg [.bool false,.nsl,.bool false]])) (m4:lk mem id=some (.row 152 2 [.agg [.int .i64 i,.str w]])) (m5:lk mem ie=some (.row 79 3 [y])) (hy:D1 mem σ y (gY o)):dE mem σ (RI A i w v a o):=
 ⟨⟨0,_,s0,m0,.cons (qH s1) .nil⟩,⟨1,_,s1,m1,qG c9 a⟩,⟨ib,_,sb,m2,.same (.cons (dZ v) .nil)⟩,⟨ic,_,sc,m3,.same (.cons (.agg' (.cons (tB _) (.cons .nsl (.cons (tB _) .nil)))) .nil)⟩,⟨id,_,sd,m4,.same (.cons (.agg' (.cons nn (.cons nn .nil))) .nil)⟩,⟨ie,_,se,m5,.cons hy .nil⟩,trivial⟩
theorem TM{A:List Nd}(h:VT A)(i:Nat)(hi:i<A.length)(ih:∀j<i,S1 A j):S1 A i:=by
  intro L v hL ho hz;have hx:=b9 hi;have hxm:=UA hx;have gx:=h.node hx;have hE:=O0 v ho hz;have nv:=dZ v;have hkm:=fun(k:Int) (hk:k∈(aO A i).kids)=>g7 h hx hk
  have en:(bD A)[((i:Nat):Int).toNat]? = some (cN (aO A i)):=by simp[lG,hx]
  have nN:=aW (aO A i);by_cases vv:bS v=0
  · rw[T7 vv,vv] at hE
    have hlk:=fun(mem:aN) (id:Nat) (hm:lk mem id=some (.mapb (oY gY aR A L)))=>Pq (k:=(i,some v)) hL ⟨ho,vv⟩ hm
    have hko:sN (i,some v) = .agg [.int .i64 i,.str (fJ v)]:=rfl;have hvk:GF aR A (i,some v)=(bP aR).of A i v:=rfl;rw[hko] at hlk;have hkok:f7 (i,some v):=⟨ho,vv⟩
    have hfn:∀a,uM a (i,some v)=false->iF prog 152 (.agg [.int .i64 i,.str (fJ v)]) (oY gY aR A a) 0=some none:=fun a e=>xJ (k:=(i,some v)) a 0 e
    have hfy:∀a,(∀q∈a,f7 q)->uM a (i,some v)=true->∃j,iF prog 152 (.agg [.int .i64 i,.str (fJ v)]) (oY gY aR A a) 0=some (some (0+j,gY ((bP aR).of A i v)))/\(oY gY aR A a)[j]? = some (.agg [.int .i64 i,.str (fJ v)],gY ((bP aR).of A i v)):=fun a ha e=>tP (k:=(i,some v)) hkok a 0 ha e
    have hsn:∀a,oY gY aR A (a++[(i,some v)])=oY gY aR A a++[(.agg [.int .i64 i,.str (fJ v)],gY ((bP aR).of A i v))]:=fun a=>Gb gY aR A a (i,some v)
    have hss:z7 (.agg [.int .i64 i,.str (fJ v)]) (.agg [.int .i64 i,.str (fJ v)])=true:=CF (i,some v);have hp:=Lj aR h hi vv;generalize fJ v=w at *;obtain⟨vk,vn,vs,vks⟩:=v;have nw:NN (.il 1 (kI w)):=.il' (Go.Ax.f9 w);have tw:fG (kI w)=some w:=x7 w;generalize hres:(bP aR).of A i (.mk vk vn vs vks)=res at *;cases hh:uM L (i,some (.mk vk vn vs vks)) with
    | true=>
      rw[hh,T7 rfl,hvk] at hlk;clear hp;refine aG bB func83 rfl ?_;cases res <;>
      · refine Rr ?_
        refine hE.go ?_ (.cons nv .nil) (.tup' (.cons nw (.cons nn .nil)));refine Rr ?_;repeat((first|refine dN.2 ?_|refine bH ?_|refine aC tw ?_|refine aC en ?_|refine aC (hlk _ _ rfl) ?_);refine Rr ?_)
        first
        | exact bJ (n':=2) (m':=q7 A L) [(0,0),(1,1)] rfl (cR (i:=0) (j:=1) rfl rfl rfl rfl) (.same _ (S0 _ _ _)) ⟨L,hL,rfl,rfl,rfl⟩
        | exact bJ (n':=2) (m':=q7 A L) [(0,0),(1,1)] rfl (cR (i:=0) (j:=1) rfl rfl rfl rfl) (.same _ (S0 _ _ [])) ⟨L,hL,rfl,rfl,rfl⟩
    | false=>
      rw[hh,T5 (by simp)] at hlk;have hkc:=gx.node.kind;have hyo:=(h.tin.ok _ hxm).value;have hsf:=PL h hi;have hcf:=fun h2=>Oc h hi h2 (.mk vk vn vs vks)
      have hbf:=fun h4=>PC h hi h4 (.mk vk vn vs vks)
      have hov:=fun(j:Nat) (hj:j<i) (u:aT)=>MC (A:=A) h (i:=j) (by omega) u
      have hbl:=gx.node.bind;have hkl:=h.tin.klen _ hxm;have hvl0:=h.tin.vlen _ hxm;have hvv:∀u∈(aO A i).values,g5 u/\aY u<=1000000:=fun u hu=>⟨((h.tin.ok _ hxm).valuesI u hu).1,by have:=(l9 (h.vals_valid hx hu)).2.2;omega⟩
      generalize aO A i=x at *;obtain⟨xk,xn,xl,xh,xw,xb,xv,xc,⟨yk,yn,ys,yks⟩⟩:=x;simp only at hkc hp hkm hsf hcf hbf hbl hvv hkl hvl0;refine aG bB func83 rfl ?_;refine Rr ?_;refine hE.go ?_ (.cons nv .nil) (.tup' (.cons nw (.cons nn .nil)));refine Rr ?_;repeat((first|refine dN.2 ?_|refine bH ?_|refine aC tw ?_|refine aC en ?_|refine aC (hlk _ _ rfl) ?_);refine Rr ?_)
      refine' eD.joinC (P:=prog) (B:=2) (rest:=M2 Tryz.f83) (Q:=L0 prog (Tryz.f83).results.toList (oH 2 (Nz A res))) bB (fun a:List Key=>∀q∈a,f7 q) (fun a=>jW A i w res a) (fun hJ=>?_) (fun a ha=>?_)
      · refine aD (fun h=>?_) (fun h=>?_)
        · have k0:xk=0:=by simpa using h
          rw[T7 k0] at hp;have hC:=pD (.mk yk yn ys yks) (.mk vk vn vs vks) hyo;refine Rt ?_;refine hC.go ?_ (.cons (dZ _) (.cons nv .nil)) nn;refine Rt ?_;by_cases e:bR (.mk yk yn ys yks) (.mk vk vn vs vks)=0
          · rw[T7 e] at hp
            rw[e]
            conv=>whnf
            refine eD.many ?_
            conv=>whnf
            refine kZ.many ?_
            conv=>whnf
            refine hJ L _ [(0,0),(1,1),(3,2),(4,3),(17,4)] hL ?_;exact vE rfl rfl rfl rfl rfl rfl rfl rfl rfl rfl rfl (by rw[hp];exact KO 1) rfl rfl rfl rfl rfl
          · rw[T5 e] at hp
            rw[show (bR (.mk yk yn ys yks) (.mk vk vn vs vks) == 0)=false by simpa using e]
            conv=>whnf
            refine eD.many ?_
            conv=>whnf
            first
            | (refine hJ L _ [(0,0),(1,1),(3,2),(4,3),(17,4)] hL ?_
               exact vE rfl rfl rfl rfl rfl rfl rfl rfl rfl rfl rfl (by rw[hp];exact Ei) rfl rfl rfl rfl rfl)
        · have k0:xk≠0:=by simpa using h
          rw[T5 k0] at hp;refine Rr ?_;refine aD (fun h=>?_) (fun h=>?_)
          · have k1:xk=1:=by simpa using h
            rw[T7 k1] at hp;refine Rt ?_;have hir:DU ⟨xk,xn,xl,xh,xw,xb,xv,xc,.mk yk yn ys yks⟩ (.mk vk vn vs vks)=(decide (vk=0) && decide (xl<=vn) && decide (vn<=xh)):=rfl;rw[hir] at hp;by_cases e1:vk=0
            · rw[show (vk == 0)=true by simpa using e1]
              refine Rr ?_;by_cases e2:xl<=vn
              · rw[show decide (vn≥xl)=true by simpa using e2]
                refine Rr ?_;by_cases e3:vn<=xh
                · rw[show decide (vn<=xh)=true by simpa using e3]
                  rw[UD e1,UD e2,UD e3,V9,V9,T7 rfl] at hp;refine Rr ?_;have hO:=QI _ (.ip' nN) (IntKind.i64.wrap (vn-xl));rw[cM] at hO;refine hO.go ?_ (.cons (.ip' nN) (.cons nn .nil)) (.agg' (.cons (tB _) (.cons (tU _) .nil)))
                  conv=>whnf
                  repeat(first|(refine hJ L _ [(0,0),(1,1),(3,2),(4,3),(17,4)] hL ?_;exact vE rfl rfl rfl rfl rfl rfl rfl rfl rfl rfl rfl (by rw[hp];exact KO 1) rfl rfl rfl rfl rfl;done)|(refine Xg ?_;conv=>whnf))
                · rw[show decide (vn<=xh)=false by simpa using e3]
                  rw[UO e3,Vw,T5 (by simp)] at hp
                  conv=>whnf
                  repeat(first|(refine hJ L _ [(0,0),(1,1),(3,2),(4,3),(17,4)] hL ?_;exact vE rfl rfl rfl rfl rfl rfl rfl rfl rfl rfl rfl (by rw[hp];exact Ei) rfl rfl rfl rfl rfl;done)|(refine Xg ?_;conv=>whnf))
              · rw[show decide (vn≥xl)=false by simpa using e2]
                rw[UO e2,Vw,Vx,T5 (by simp)] at hp
                conv=>whnf
                repeat(first|(refine hJ L _ [(0,0),(1,1),(3,2),(4,3),(17,4)] hL ?_;exact vE rfl rfl rfl rfl rfl rfl rfl rfl rfl rfl rfl (by rw[hp];exact Ei) rfl rfl rfl rfl rfl;done)|(refine Xg ?_;conv=>whnf))
            · rw[show (vk == 0)=false by simpa using e1]
              rw[UO e1,Vx,Vx,T5 (by simp)] at hp
              conv=>whnf
              repeat(first|(refine hJ L _ [(0,0),(1,1),(3,2),(4,3),(17,4)] hL ?_;exact vE rfl rfl rfl rfl rfl rfl rfl rfl rfl rfl rfl (by rw[hp];exact Ei) rfl rfl rfl rfl rfl;done)|(refine Xg ?_;conv=>whnf))
          · have k1:xk≠1:=by simpa using h
            rw[T5 k1] at hp;refine Rr ?_;refine aD (fun h=>?_) (fun h=>?_)
            · have k3:xk=3:=by simpa using h
              rw[T7 k3] at hp;refine Rr ?_;have hM:=O8 ⟨xk,xn,xl,xh,xw,xb,xv,xc,.mk yk yn ys yks⟩ (.mk vk vn vs vks);refine hM.go ?_ (.cons (.ip' nN) (.cons nv .nil)) nn;cases hm:mQ ⟨xk,xn,xl,xh,xw,xb,xv,xc,.mk yk yn ys yks⟩ (.mk vk vn vs vks) with
              | false=>
                rw[hm,T5 (by simp)] at hp
                conv=>whnf
                repeat(first|(refine hJ L _ [(0,0),(1,1),(3,2),(4,3),(17,4)] hL ?_;exact vE rfl rfl rfl rfl rfl rfl rfl rfl rfl rfl rfl (by rw[hp];exact Ei) rfl rfl rfl rfl rfl;done)|(refine Xg ?_;conv=>whnf))
              | true=>
                rw[hm,T7 rfl] at hp;have hvl:vks.length=xc.length:=by
                  obtain⟨q,_⟩:=(vN (x:=⟨xk,xn,xl,xh,xw,xb,xv,xc,.mk yk yn ys yks⟩)).1 hm;exact q
                have hs:=hsf k3 vks hvl;have hnx:=fun(k:Nat) (hk:k<xc.length)=>Mx aR (x:=⟨xk,xn,xl,xh,xw,xb,xv,xc,.mk yk yn ys yks⟩) (of:=(bP aR).of A) (vs:=vks) hk hvl
                have hs0:OM aR ⟨xk,xn,xl,xh,xw,xb,xv,xc,.mk yk yn ys yks⟩ ((bP aR).of A) vks 0=some 1:=rfl;rw[show xR (.mk vk vn vs vks)=vks from rfl] at hp;simp only at hnx;generalize OM aR ⟨xk,xn,xl,xh,xw,xb,xv,xc,.mk yk yn ys yks⟩ ((bP aR).of A) vks=G at *;have oks:=jC ho.2.2.2.2;have szs:∀u∈vks,aY u<=1000000:=fun u hu=>by have:=EI hu;simp[aY] at hz;omega
                refine Rr ?_;refine bA.at bB (fun p:Nat × List Key=>p.1<=xc.length/\∀q∈p.2,f7 q)
                  (fun p=>⟨[(0,.ptr 0 0 0),(5,.ptr 2 0 0),(6,.ptr 3 0 0),(9,.ptr 4 0 0),(13,.ptr 5 0 0),(118,.il 1 (bG xc)),(119,.int .i64 xc.length),(120,.int .i64 p.1)],RI A i w (.mk vk vn vs vks) p.2 (G p.1),6,215⟩)
                  (fun p=>xc.length-p.1) (0,L) [(0,0),(1,1),(2,2),(3,3),(4,4),(17,5)] ⟨VL _,hL⟩
                  (aF _ rfl (vR (ib:=2) (ic:=3) (id:=4) (ie:=17) rfl rfl rfl rfl rfl rfl rfl rfl rfl rfl rfl rfl (by rw[hs0];exact KO 1))
                    ⟨aI,aI,aI,aI,aI,aQ (.il' (a8 _)),⟨_,rfl,.int (by rw[aH])⟩,aJ,trivial⟩) ?_
                rintro⟨k,L1⟩ ⟨hk,hL1⟩;simp only at hk hL1 ⊢;obtain⟨x1,b1,hF1⟩:=Bh (G k);have nf1:=c9 (G k);rw[hF1] at nf1;unfold RI;rw[hF1];refine Rr ?_;refine aD (fun hb=>?_) (fun hb=>?_)
                · have hlt:k<xc.length:=by simpa using hb
                  have hlt2:k<vks.length:=by omega
                  obtain⟨x2,b2,hF2⟩:=Bh (G (k+1));have hsk:=hs k;have hsk1:=hs (k+1);have hnk:=hnx k hlt;have e1:(bG xc)[((k:Nat):Int).toNat]? = some (.int .i64 xc[k]):=by simp[bL,Ty hlt]
                  have e2:(aS vks)[((k:Nat):Int).toNat]? = some (cK vks[k]):=by rw[T4,kE,Ty hlt2];rfl
                  obtain⟨q0,q1⟩:=hkm xc[k] (UW hlt);have ok1:=oks _ (UW hlt2);have sz1:=szs _ (UW hlt2);generalize xc[k]=q at *;generalize vks[k]=u at *;obtain⟨q,rfl⟩:=UH q0;rw[T4] at q1 hnk;obtain⟨x3,b3,hF3⟩:=Bh ((bP aR).of A q u);have iq:=ih q q1;obtain⟨u1,u2,u3,u4⟩:=u;refine Rr ?_;refine aC e1 ?_;refine Rr ?_;refine aC e2 ?_;refine Rr ?_;refine Dh iq hL1 ok1 sz1 rfl hF3 fun L2 hL2=>?_
                  refine Rt ?_;refine EP (r:=.agg [.bool false,.il 1 x2,.bool b2]) hsk (hov q q1 _) (by rw[←hnk];exact hsk1) hF1 hF3 (by rw[←hnk];exact hF2) rfl ?_;refine Rt ?_;have nf2:=c9 (G (k+1));rw[hF2] at nf2;exact .mk (k+1,L2) [(0,0),(1,1),(2,2),(3,3),(4,4),(5,5)] ⟨by simp only;omega,hL2⟩
                    (aF _ rfl (vR (ib:=2) (ic:=3) (id:=4) (ie:=5) rfl rfl rfl rfl rfl rfl rfl rfl rfl rfl rfl rfl (by simp only;rw[hF2];exact zT _ _ nf2))
                      ⟨aI,aI,aI,aI,aI,aQ (.il' (a8 _)),aJ,⟨_,rfl,.int (by rw[bE ⟨by omega,by omega⟩];simp)⟩,trivial⟩) (by simp only;omega)
                · have hke:k=xc.length:=by
                    have:¬k<xc.length:=by simpa using hb
                    omega
                  conv=>whnf
                  repeat(first|(refine hJ L1 _ [(0,0),(1,1),(3,2),(4,3),(5,4)] hL1 ?_;exact vE rfl rfl rfl rfl rfl rfl rfl rfl rfl rfl rfl (by rw[hp,←hke,hF1];exact zT x1 b1 nf1) rfl rfl rfl rfl rfl;done)|(refine Xg ?_;conv=>whnf))
            · have k3:xk≠3:=by simpa using h
              rw[T5 k3] at hp;refine Rr ?_;refine aD (fun h=>?_) (fun h=>?_)
              · have k2:xk=2:=by simpa using h
                rw[T7 k2] at hp;have hs:=hcf k2;have hnx:∀(k:Nat) (hk:k<xc.length),En aR ⟨xk,xn,xl,xh,xw,xb,xv,xc,.mk yk yn ys yks⟩ (fun q=>(bP aR).of A q (.mk vk vn vs vks)) (k+1)=gK aR (En aR ⟨xk,xn,xl,xh,xw,xb,xv,xc,.mk yk yn ys yks⟩ (fun q=>(bP aR).of A q (.mk vk vn vs vks)) k) (dI aR (some 1) ((bP aR).of A xc[k].toNat (.mk vk vn vs vks))):=fun k hk=>GB aR (x:=⟨xk,xn,xl,xh,xw,xb,xv,xc,.mk yk yn ys yks⟩) (al:=fun q=>(bP aR).of A q (.mk vk vn vs vks)) hk
                have hs0:En aR ⟨xk,xn,xl,xh,xw,xb,xv,xc,.mk yk yn ys yks⟩ (fun q=>(bP aR).of A q (.mk vk vn vs vks)) 0=none:=rfl;generalize En aR ⟨xk,xn,xl,xh,xw,xb,xv,xc,.mk yk yn ys yks⟩ (fun q=>(bP aR).of A q (.mk vk vn vs vks))=G at *;refine Rr ?_;refine bA.at bB (fun p:Nat × List Key=>p.1<=xc.length/\∀q∈p.2,f7 q)
                  (fun p=>⟨[(0,.ptr 0 0 0),(5,.ptr 2 0 0),(6,.ptr 3 0 0),(9,.ptr 4 0 0),(12,.ip (cN ⟨xk,xn,xl,xh,xw,xb,xv,xc,.mk yk yn ys yks⟩)),(13,.ptr 5 0 0),(142,.il 1 (bG xc)),(143,.int .i64 xc.length),(144,.int .i64 p.1)],RI A i w (.mk vk vn vs vks) p.2 (G p.1),6,215⟩)
                  (fun p=>xc.length-p.1) (0,L) [(0,0),(1,1),(2,2),(3,3),(4,4),(17,5)] ⟨VL _,hL⟩
                  (aF _ rfl (vR (ib:=2) (ic:=3) (id:=4) (ie:=17) rfl rfl rfl rfl rfl rfl rfl rfl rfl rfl rfl rfl (by rw[hs0];exact Ei))
                    ⟨aI,aI,aI,aI,aQ (.ip' nN),aI,aQ (.il' (a8 _)),⟨_,rfl,.int (by rw[aH])⟩,aJ,trivial⟩) ?_
                rintro⟨k,L1⟩ ⟨hk,hL1⟩;simp only at hk hL1 ⊢;obtain⟨x1,b1,hF1⟩:=Bh (G k);have nf1:=c9 (G k);rw[hF1] at nf1;unfold RI;rw[hF1];refine Rr ?_;refine aD (fun hb=>?_) (fun hb=>?_)
                · have hlt:k<xc.length:=by simpa using hb
                  obtain⟨x2,b2,hF2⟩:=Bh (G (k+1));have hsk:=hs k;have hsk1:=hs (k+1);have hnk:=hnx k hlt;have e1:(bG xc)[((k:Nat):Int).toNat]? = some (.int .i64 xc[k]):=by simp[bL,Ty hlt]
                  obtain⟨q0,q1⟩:=hkm xc[k] (UW hlt);generalize xc[k]=q at *;obtain⟨q,rfl⟩:=UH q0;rw[T4] at q1 hnk;have hoq:=hov q q1 (.mk vk vn vs vks);obtain⟨x3,b3,hF3⟩:=Bh ((bP aR).of A q (.mk vk vn vs vks));obtain⟨x4,b4,hF4⟩:=Bh (dI aR (some 1) ((bP aR).of A q (.mk vk vn vs vks)));have iq:=ih q q1;refine Rr ?_;refine aC e1 ?_;refine Rr ?_;have hO:=QI _ (.ip' nN) k;rw[cM] at hO;refine hO.go ?_ (.cons (.ip' nN) (.cons nn .nil)) (.agg' (.cons (tB _) (.cons (tU _) .nil)));refine Rt ?_;refine Dh (r:=.agg [.bool false,.il 1 x3,.bool b3]) iq hL1 ho hz rfl hF3 fun L2 hL2=>?_
                  refine Rt ?_;refine EP (r:=.agg [.bool false,.il 1 x4,.bool b4]) (a:=some 1) ⟨1,qO _,rfl⟩ hoq (Aw hoq) rfl hF3 hF4 rfl ?_;refine Rt ?_;refine I2 (r:=.agg [.bool false,.il 1 x2,.bool b2]) hsk (Aw hoq) (by rw[←hnk];exact hsk1) hF1 hF4 (by rw[←hnk];exact hF2) rfl ?_;refine Rt ?_;have nf2:=c9 (G (k+1));rw[hF2] at nf2;exact .mk (k+1,L2) [(0,0),(1,1),(2,2),(3,3),(4,4),(5,5)] ⟨by simp only;omega,hL2⟩
                    (aF _ rfl (vR (ib:=2) (ic:=3) (id:=4) (ie:=5) rfl rfl rfl rfl rfl rfl rfl rfl rfl rfl rfl rfl (by simp only;rw[hF2];exact zT _ _ nf2))
                      ⟨aI,aI,aI,aI,aQ (.ip' nN),aI,aQ (.il' (a8 _)),aJ,⟨_,rfl,.int (by rw[bE ⟨by omega,by omega⟩];simp)⟩,trivial⟩) (by simp only;omega)
                · have hke:k=xc.length:=by
                    have:¬k<xc.length:=by simpa using hb
                    omega
                  conv=>whnf
                  repeat(first|(refine hJ L1 _ [(0,0),(1,1),(3,2),(4,3),(5,4)] hL1 ?_;exact vE rfl rfl rfl rfl rfl rfl rfl rfl rfl rfl rfl (by rw[hp,←hke,hF1];exact zT x1 b1 nf1) rfl rfl rfl rfl rfl;done)|(refine Xg ?_;conv=>whnf))
              · have k2:xk≠2:=by simpa using h
                rw[T5 k2] at hp;refine Rr ?_;refine aD (fun h=>?_) (fun h=>?_)
                · have k4:xk=4:=by simpa using h
                  rw[T7 k4] at hp;have hs:=hbf k4;have hb4:=hbl k4;have hnx:∀(k:Nat) (hk:k<xv.length),E9 aR ⟨xk,xn,xl,xh,xw,xb,xv,xc,.mk yk yn ys yks⟩ ((bP aR).of A) (fun q=>(bP aR).of A q (.mk vk vn vs vks)) (k+1)=gK aR (E9 aR ⟨xk,xn,xl,xh,xw,xb,xv,xc,.mk yk yn ys yks⟩ ((bP aR).of A) (fun q=>(bP aR).of A q (.mk vk vn vs vks)) k) (dI aR ((bP aR).of A (xc.getD 0 0).toNat xv[k]) ((bP aR).of A (xc[k+1]'(by omega)).toNat (.mk vk vn vs vks))):=fun k hk=>Fv aR (x:=⟨xk,xn,xl,xh,xw,xb,xv,xc,.mk yk yn ys yks⟩) (of:=(bP aR).of A) (al:=fun q=>(bP aR).of A q (.mk vk vn vs vks)) hk hb4
                  have hs0:E9 aR ⟨xk,xn,xl,xh,xw,xb,xv,xc,.mk yk yn ys yks⟩ ((bP aR).of A) (fun q=>(bP aR).of A q (.mk vk vn vs vks)) 0=none:=rfl;generalize E9 aR ⟨xk,xn,xl,xh,xw,xb,xv,xc,.mk yk yn ys yks⟩ ((bP aR).of A) (fun q=>(bP aR).of A q (.mk vk vn vs vks))=G at *;refine Rr ?_;refine bA.at bB (fun p:Nat × List Key=>p.1<=xv.length/\∀q∈p.2,f7 q)
                    (fun p=>⟨[(0,.ptr 0 0 0),(5,.ptr 2 0 0),(6,.ptr 3 0 0),(9,.ptr 4 0 0),(12,.ip (cN ⟨xk,xn,xl,xh,xw,xb,xv,xc,.mk yk yn ys yks⟩)),(13,.ptr 5 0 0),(172,.il 4 (aS xv)),(173,.int .i64 xv.length),(174,.int .i64 p.1)],RI A i w (.mk vk vn vs vks) p.2 (G p.1),6,215⟩)
                    (fun p=>xv.length-p.1) (0,L) [(0,0),(1,1),(2,2),(3,3),(4,4),(17,5)] ⟨VL _,hL⟩
                    (aF _ rfl (vR (ib:=2) (ic:=3) (id:=4) (ie:=17) rfl rfl rfl rfl rfl rfl rfl rfl rfl rfl rfl rfl (by rw[hs0];exact Ei))
                      ⟨aI,aI,aI,aI,aQ (.ip' nN),aI,aQ (.il' (bC _)),⟨_,rfl,.int (by rw[aB])⟩,aJ,trivial⟩) ?_
                  rintro⟨k,L1⟩ ⟨hk,hL1⟩;simp only at hk hL1 ⊢;obtain⟨x1,b1,hF1⟩:=Bh (G k);have nf1:=c9 (G k);rw[hF1] at nf1;unfold RI;rw[hF1];refine Rr ?_;refine aD (fun hb=>?_) (fun hb=>?_)
                  · have hlt:k<xv.length:=by simpa using hb
                    have hlt2:k+1<xc.length:=by omega
                    have hlt0:0<xc.length:=by omega
                    obtain⟨x2,b2,hF2⟩:=Bh (G (k+1));have nf2:=c9 (G (k+1));rw[hF2] at nf2;have hsk:=hs k;have hsk1:=hs (k+1);have hnk:=hnx k hlt;have e1:(aS xv)[((k:Nat):Int).toNat]? = some (cK xv[k]):=by rw[T4,kE,Ty hlt];rfl
                    have hwr:IntKind.i64.wrap ((k:Int)+1)=((k+1:Nat):Int):=by
                      rw[bE ⟨by omega,by omega⟩];simp
                    have e2:(bG xc)[((k+1:Nat):Int).toNat]? = some (.int .i64 xc[k+1]):=by
                      rw[T4];simp[bL,Ty hlt2]
                    have e0:(bG xc)[(0:Int).toNat]? = some (.int .i64 (xc.getD 0 0)):=by
                      rw[show (0:Int).toNat=0 from rfl,T1,Ty hlt0];simp[bL,Ty hlt0]
                    obtain⟨q0,q1⟩:=hkm xc[k+1] (UW hlt2);obtain⟨p0,p1⟩:=hkm (xc.getD 0 0) (by rw[T1,Ty hlt0];exact UW hlt0);obtain⟨ok1,sz1⟩:=hvv _ (UW hlt);generalize xc[k+1]=q at *;generalize xc.getD 0 0=p at *;generalize xv[k]=u at *;obtain⟨q,rfl⟩:=UH q0;obtain⟨p,rfl⟩:=UH p0;rw[T4] at q1 p1;rw[T4,T4] at hnk;have hoq:=hov q q1 (.mk vk vn vs vks);have hop:=hov p p1 u;have iq:=ih q q1;have ip:=ih p p1;obtain⟨x4,b4,hF4⟩:=Bh ((bP aR).of A p u);obtain⟨u1,u2,u3,u4⟩:=u;cases hq:(bP aR).of A q (.mk vk vn vs vks) with
                    | none=>
                      rw[hq,Hj,KQ] at hnk;have hF3:gY ((bP aR).of A q (.mk vk vn vs vks)) = .agg [.bool false,.il 1 [],.bool false]:=by rw[hq];rfl
                      rw[hnk,hF1] at hF2;refine Rr ?_;refine aC e1 ?_;refine Rr ?_;rw[hwr];refine Rr ?_;refine aC e2 ?_;refine Rr ?_;refine Dh iq hL1 ho hz rfl hF3 fun L2 hL2=>?_
                      refine Rt ?_;exact .mk (k+1,L2) [(0,0),(1,1),(2,2),(3,3),(4,4),(5,5)] ⟨by simp only;omega,hL2⟩
                        (aF _ rfl (vR (ib:=2) (ic:=3) (id:=4) (ie:=5) rfl rfl rfl rfl rfl rfl rfl rfl rfl rfl rfl rfl (by simp only;rw[hnk,hF1];exact zT _ _ nf1))
                          ⟨aI,aI,aI,aI,aQ (.ip' nN),aI,aQ (.il' (bC _)),aJ,⟨_,rfl,.int hwr⟩,trivial⟩) (by simp only;omega)
                    | some n=>
                      have hF3:gY ((bP aR).of A q (.mk vk vn vs vks)) = .agg [.bool false,.il 1 (bM (dg 4294967296 n)),.bool true]:=by rw[hq];rfl
                      have hpr:=Fu hsk hop hoq (by rw[←hnk];exact hsk1);obtain⟨x5,b5,hF5⟩:=Bh (dI aR ((bP aR).of A p (.mk u1 u2 u3 u4)) ((bP aR).of A q (.mk vk vn vs vks)));refine Rr ?_;refine aC e1 ?_;refine Rr ?_;rw[hwr];refine Rr ?_;refine aC e2 ?_;refine Rr ?_;refine Dh iq hL1 ho hz rfl hF3 fun L2 hL2=>?_
                      refine Rt ?_;refine aC e0 ?_;refine Rr ?_;refine Dh ip hL2 ok1 sz1 rfl hF4 fun L3 hL3=>?_
                      refine Rt ?_;refine EP (r:=.agg [.bool false,.il 1 x5,.bool b5]) hop hoq hpr hF4 hF3 hF5 rfl ?_;refine Rt ?_;refine I2 (r:=.agg [.bool false,.il 1 x2,.bool b2]) hsk hpr (by rw[←hnk];exact hsk1) hF1 hF5 (by rw[←hnk];exact hF2) rfl ?_;refine Rt ?_;exact .mk (k+1,L3) [(0,0),(1,1),(2,2),(3,3),(4,4),(5,5)] ⟨by simp only;omega,hL3⟩
                        (aF _ rfl (vR (ib:=2) (ic:=3) (id:=4) (ie:=5) rfl rfl rfl rfl rfl rfl rfl rfl rfl rfl rfl rfl (by simp only;rw[hF2];exact zT _ _ nf2))
                          ⟨aI,aI,aI,aI,aQ (.ip' nN),aI,aQ (.il' (bC _)),aJ,⟨_,rfl,.int hwr⟩,trivial⟩) (by simp only;omega)
                  · have hke:k=xv.length:=by
                      have:¬k<xv.length:=by simpa using hb
                      omega
                    conv=>whnf
                    repeat(first|(refine hJ L1 _ [(0,0),(1,1),(3,2),(4,3),(5,4)] hL1 ?_;exact vE rfl rfl rfl rfl rfl rfl rfl rfl rfl rfl rfl (by rw[hp,←hke,hF1];exact zT x1 b1 nf1) rfl rfl rfl rfl rfl;done)|(refine Xg ?_;conv=>whnf))
                · have k4:xk≠4:=by simpa using h
                  exfalso;omega
      · have nf:=c9 res
        generalize hk:((i,some (aT.mk vk vn vs vks)):Key)=kk at *;cases h2:uM a kk with
        | false=>
          have hf:=hfn a h2;have hs:=hsn a;clear hfn hfy hsn hlk hp hE;unfold jW;generalize oY gY aR A a=E at *;obtain⟨x,b,hF⟩:∃x b,gY res = .agg [.bool false,.il 1 x,.bool b]:=by cases res<;>exact⟨_,_,rfl⟩
          rw[hF] at hs nf ⊢;refine Rr ?_;rw[hf];refine Rr ?_;refine gE.2 ?_;refine Rr ?_;first
          | (refine bJ (n':=2) (m':=q7 A (a++[kk])) [(0,0),(1,1)] rfl (cR (i:=0) (j:=1) rfl rfl rfl (by rw[hs];rfl)) (.same _ (by assumption)) ⟨a++[kk],fun q hq=>?_,hF.symm,rfl,rfl⟩
             rcases UI.1 hq with hq|hq
             · exact ha q hq
             · rw[VD.1 hq];exact hkok)
          | trace_state
        | true=>
          obtain⟨j,hj,he⟩:=hfy a ha h2;clear hfn hfy hsn hlk hp hE;unfold jW;generalize hE:oY gY aR A a=E at *;rw[UT] at hj;obtain⟨x,b,hF⟩:∃x b,gY res = .agg [.bool false,.il 1 x,.bool b]:=by cases res<;>exact⟨_,_,rfl⟩
          rw[hF] at hj he nf ⊢;refine Rr ?_;rw[hj];refine Rr ?_;refine aC he ?_;refine Rr ?_;refine aM hss ?_;refine Rr ?_;refine dN.2 ?_;rw[HN he];refine Rr ?_;exact bJ (n':=2) (m':=q7 A a) [(0,0),(1,1)] rfl (cR (i:=0) (j:=1) rfl rfl rfl (by rw[hE];rfl)) (.same _ nf) ⟨a,ha,hF.symm,rfl,rfl⟩
  · have hn:(bP aR).of A i v=none:=by
      rw[(bP aR).of_eq h hi]
      show Ae _ _ _ _=_
      unfold Ae;rw[T7 vv]
    rw[hn];rw[T5 vv] at hE;clear hn;generalize bS v=e at *;have hb:(e != 0)=true:=by simpa using vv
    obtain⟨vk,vn,vs,vks⟩:=v;refine aG bB func83 rfl ?_;refine Rr ?_;refine hE.go ?_ (.cons nv .nil) (.tup' (.cons .nsl (.cons nn .nil)));refine Rt ?_;rw[hb];refine Rt ?_;exact bJ (n':=2) (m':=q7 A L) [(0,0),(1,1)] rfl (cR (i:=0) (j:=1) rfl rfl rfl rfl) FH ⟨L,hL,rfl,rfl,rfl⟩
set_option maxHeartbeats 16000000
theorem TK{A:List Nd}(h:VT A):∀i,i<A.length->S1 A i:=by
 intro i
 induction i using Nat.strongRecOn with
 | ind i ih=>exact fun hi=>TM h i hi fun j hj=>ih j hj (by omega)
theorem TD(x:Nd)(h1:x.kind=1)(hn:dG x=true):aZ prog [] 79 [.ip (cN x)] (fW ((aR.spn x:Nat):Int)):=by
 obtain⟨r1,r2,r3,r4⟩:=cT hn;have hO:=SK x fun _=>hn
 have ho:Kw x=((aR.spn x:Nat):Int):=by
  show (if x.kind=1 then x.hi-x.lo+1 else _)=(((x.hi-x.lo+1).toNat:Nat):Int)
  rw[T7 h1];omega
 rw[ho] at hO;have hF:=Lm ((aR.spn x:Nat):Int) (by
  show i64 (((x.hi-x.lo+1).toNat:Nat):Int)
  exact⟨by omega,by omega⟩)
 rw[cM] at hF ⊢;have nz:NN (.agg [.bool false,.il 1 (bM (dg 4294967296 (aR.spn x)))]):=.agg' (.cons (tB _) (.cons (tU _) .nil));have nx:=aW x;generalize aR.spn x=m at *;generalize bM (dg 4294967296 m)=z at *;generalize cN x=y at *;refine aG bB func79 rfl ?_;refine Rr ?_;refine hO.go ?_ (.cons (.ip' nx) .nil) nn;refine Rr ?_;refine hF.go ?_ (.cons nn .nil) nz;refine Rr ?_;exact aA nz ⟨rfl,rfl,rfl⟩
def PA(A:List Nd)(i:Nat):Prop:=∀(L:List Key),(∀q∈L,f7 q)->aE prog [] 37 [.ptr 0 0 0,.int .i64 i] (q7 A L) 2 (Nz A ((bP aR).all A i))
theorem GH{A:List Nd}{j:Nat}(ih:PA A j){L:List Key}{r:AV}{mem:aN}{nx:Nat}{K:AV->aN->Nat->Prop}(hL:∀q∈L,f7 q)(hp:kU [0,1] mem=q7 A L)(er:gY ((bP aR).all A j)=r)
  (hk:∀L',(∀q∈L',f7 q)->K r (q7 A L'++iZ [0,1] mem) nx):aE prog [] 37 [.ptr 0 0 0,.int .i64 j] mem nx K:=by
 subst er;refine aE.useI bB [0,1] (ih L hL) hp (.cons (.ptr 0 0 0 0 rfl) (.s .nil)) (cR (i:=0) (j:=1) rfl rfl rfl rfl) rfl ?_;rintro r m k ⟨L',h1,rfl,rfl,rfl⟩;exact⟨c9 _,cR (i:=0) (j:=1) rfl rfl rfl rfl,rfl,hk L' h1⟩
def NV(A:List Nd)(i:Nat)(a:List Key)(o:Option Nat):aN:=[(0,.row 150 8 [IP A 1]),(1,.mapb (oY gY aR A a)),(2,.row 79 3 [.agg [.bool false,.nsl,.bool false]]),(3,.row 152 2 [.agg [.int .i64 i,.str []]]),(4,.row 79 3 [gY o])]
theorem vM{A:List Nd}{i:Nat}{a:List Key}{o:Option Nat}{mem:aN}{σ:List (Nat × Nat)}{ib ic id:Nat}{y:AV}(s0:lk σ 0=some 0)(s1:lk σ 1=some 1)(sb:lk σ ib=some 2)(sc:lk σ ic=some 3)(sd:lk σ id=some 4)(m0:lk mem 0=some (.row 150 8 [IP A 1]))(m1:lk mem 1=some (.mapb (oY gY aR A a)))
  (m2:lk mem ib=some (.row 79 3 [.agg [.bool false,.nsl,.bool false]])) (m3:lk mem ic=some (.row 152 2 [.agg [.int .i64 i,.str []]])) (m4:lk mem id=some (.row 79 3 [y])) (hy:D1 mem σ y (gY o)):dE mem σ (NV A i a o):=
 ⟨⟨0,_,s0,m0,.cons (qH s1) .nil⟩,⟨1,_,s1,m1,qG c9 a⟩,⟨ib,_,sb,m2,.same (.cons (.agg' (.cons (tB _) (.cons .nsl (.cons (tB _) .nil)))) .nil)⟩,⟨ic,_,sc,m3,.same (.cons (.agg' (.cons nn (.cons nn .nil))) .nil)⟩,⟨id,_,sd,m4,.cons hy .nil⟩,trivial⟩
def jA(A:List Nd)(i:Nat)(res:Option Nat)(a:List Key):St:=⟨[(0,.ptr 0 0 0),(4,.ptr 2 0 0),(5,.ptr 3 0 0),(9,.ptr 4 0 0)],NV A i a res,5,146⟩
theorem GI{A:List Nd}{i:Nat}{res:Option Nat}{a:List Key}{s:St}{y:AV}{ia ib ic:Nat}{σ:List (Nat × Nat)}(hnt:s.nt=146)(t0:lk σ 0=some 0)(t1:lk σ 1=some 1)(ta:lk σ ia=some 2)(tb:lk σ ib=some 3)(tc:lk σ ic=some 4)(m0:lk s.mem 0=some (.row 150 8 [IP A 1]))(m1:lk s.mem 1=some (.mapb (oY gY aR A a)))
  (m2:lk s.mem ia=some (.row 79 3 [.agg [.bool false,.nsl,.bool false]])) (m3:lk s.mem ib=some (.row 152 2 [.agg [.int .i64 i,.str []]])) (m4:lk s.mem ic=some (.row 79 3 [y]))
  (hy:D1 s.mem σ y (gY res)) (s0:lk s.sl 0=some (.ptr 0 0 0)) (s4:lk s.sl 4=some (.ptr ia 0 0)) (s5:lk s.sl 5=some (.ptr ib 0 0)) (s9:lk s.sl 9=some (.ptr ic 0 0))
  (hc:(rG σ && (rF (jA A i res a).mem && (uY 2 5 σ && Nat.ble 2 5)))=true):Conv 2 σ s (jA A i res a):=by
 obtain⟨sl,mem,nx,nt⟩:=s;simp only at hnt m0 m1 m2 m3 m4 s0 s4 s5 s9 hy;subst hnt;exact aF _ hc (vM t0 t1 ta tb tc m0 m1 m2 m3 m4 hy)
  ⟨⟨_,s0,.ptr 0 0 0 0 t0⟩,⟨_,s4,.ptr ia 2 0 0 ta⟩,⟨_,s5,.ptr ib 3 0 0 tb⟩,⟨_,s9,.ptr ic 4 0 0 tc⟩,trivial⟩
theorem SD{A:List Nd}(h:VT A)(i:Nat)(hi:i<A.length)(ih:∀j<i,PA A j):PA A i:=by
 intro L hL;have hx:=b9 hi;have hxm:=UA hx;have gx:=h.node hx;have hkm:=fun(k:Int) (hk:k∈(aO A i).kids)=>g7 h hx hk
 have en:(bD A)[((i:Nat):Int).toNat]? = some (cN (aO A i)):=by simp[lG,hx]
 have nN:=aW (aO A i);have hlk:=fun(mem:aN) (id:Nat) (hm:lk mem id=some (.mapb (oY gY aR A L)))=>Pq (k:=(i,none)) hL trivial hm
 have hko:sN (i,none) = .agg [.int .i64 i,.str []]:=rfl;have hvk:GF aR A (i,none)=(bP aR).all A i:=rfl;rw[hko] at hlk;have hfn:∀a,uM a (i,none)=false->iF prog 152 (.agg [.int .i64 i,.str []]) (oY gY aR A a) 0=some none:=fun a e=>xJ (k:=(i,none)) a 0 e
 have hfy:∀a,(∀q∈a,f7 q)->uM a (i,none)=true->∃j,iF prog 152 (.agg [.int .i64 i,.str []]) (oY gY aR A a) 0=some (some (0+j,gY ((bP aR).all A i)))/\(oY gY aR A a)[j]? = some (.agg [.int .i64 i,.str []],gY ((bP aR).all A i)):=fun a ha e=>tP (k:=(i,none)) trivial a 0 ha e
 have hsn:∀a,oY gY aR A (a++[(i,none)])=oY gY aR A a++[(.agg [.int .i64 i,.str []],gY ((bP aR).all A i))]:=fun a=>Gb gY aR A a (i,none)
 have hss:z7 (.agg [.int .i64 i,.str []]) (.agg [.int .i64 i,.str []])=true:=CF (i,none);have hp:=LA aR h hi;generalize hres:(bP aR).all A i=res at *;cases hh:uM L (i,none) with
 | true=>
  rw[hh,T7 rfl,hvk] at hlk;clear hp;refine aG bB func37 rfl ?_;cases res <;>
  ·refine Rr ?_;repeat((first|refine dN.2 ?_|refine bH ?_|refine aC en ?_|refine aC (hlk _ _ rfl) ?_);refine Rr ?_)
   first
   | exact bJ (n':=2) (m':=q7 A L) [(0,0),(1,1)] rfl (cR (i:=0) (j:=1) rfl rfl rfl rfl) (.same _ (S0 _ _ _)) ⟨L,hL,rfl,rfl,rfl⟩
   | exact bJ (n':=2) (m':=q7 A L) [(0,0),(1,1)] rfl (cR (i:=0) (j:=1) rfl rfl rfl rfl) (.same _ (S0 _ _ [])) ⟨L,hL,rfl,rfl,rfl⟩
 | false=>
  rw[hh,T5 (by simp)] at hlk;have hkc:=gx.node.kind;have hsq:=OV h hi;have hcs:=OF h hi;have hbs:=Nn h hi;have hov:=fun(j:Nat) (hj:j<i) (u:aT)=>MC (A:=A) h (i:=j) (by omega) u
  have hav:=fun(j:Nat) (hj:j<i)=>OT (A:=A) h (i:=j) (by omega)
  have hbl:=gx.node.bind;have hkl:=h.tin.klen _ hxm;have hvl0:=h.tin.vlen _ hxm;have hSp:=fun e=>TD (aO A i) e gx.node.num
  have hvv:∀u∈(aO A i).values,g5 u/\aY u<=1000000:=fun u hu=>⟨((h.tin.ok _ hxm).valuesI u hu).1,by have:=(l9 (h.vals_valid hx hu)).2.2;omega⟩
  have hofc:=fun(j:Nat) (hj:j<i)=>TK h j (by omega)
  generalize aO A i=x at *;obtain⟨xk,xn,xl,xh,xw,xb,xv,xc,⟨yk,yn,ys,yks⟩⟩:=x;simp only at hkc hp hkm hsq hcs hbs hbl hvv hkl hvl0 hSp;refine aG bB func37 rfl ?_;refine Rr ?_;repeat((first|refine dN.2 ?_|refine bH ?_|refine aC en ?_|refine aC (hlk _ _ rfl) ?_);refine Rr ?_)
  refine' eD.joinC (P:=prog) (B:=2) (rest:=M2 Tryz.f37) (Q:=L0 prog (Tryz.f37).results.toList (oH 2 (Nz A res))) bB (fun a:List Key=>∀q∈a,f7 q) (fun a=>jA A i res a) (fun hJ=>?_) (fun a ha=>?_)
  ·refine aD (fun h=>?_) (fun h=>?_)
   ·have k1:xk=1:=by simpa using h
    rw[T7 k1] at hp;have hS:=hSp k1;rw[cM] at hS;refine Rr ?_;refine hS.go ?_ (.cons (.ip' nN) .nil) (.agg' (.cons (tB _) (.cons (tU _) .nil)))
    conv=>whnf
    repeat(first|(refine dN.2 ?_;conv=>whnf)|(refine bH ?_;conv=>whnf))
    repeat(first|(refine hJ L _ [(0,0),(1,1),(2,2),(3,3),(16,4)] hL ?_;exact GI rfl rfl rfl rfl rfl rfl rfl rfl rfl rfl rfl (by rw[hp];exact KO _) rfl rfl rfl rfl rfl;done)|(refine Xg ?_;conv=>whnf))
   ·have k1:xk≠1:=by simpa using h
    rw[T5 k1] at hp;refine Rr ?_;refine aD (fun h=>?_) (fun h=>?_)
    ·have k3:xk=3:=by simpa using h
     rw[T7 k3] at hp;have hs:=hsq k3;have hnx:∀(k:Nat) (hk:k<xc.length),Mo aR ⟨xk,xn,xl,xh,xw,xb,xv,xc,.mk yk yn ys yks⟩ ((bP aR).all A) (k+1)=dI aR (Mo aR ⟨xk,xn,xl,xh,xw,xb,xv,xc,.mk yk yn ys yks⟩ ((bP aR).all A) k) ((bP aR).all A xc[k].toNat):=fun k hk=>Lz aR (x:=⟨xk,xn,xl,xh,xw,xb,xv,xc,.mk yk yn ys yks⟩) (al:=((bP aR).all A)) hk
     have hs0:Mo aR ⟨xk,xn,xl,xh,xw,xb,xv,xc,.mk yk yn ys yks⟩ ((bP aR).all A) 0=some 1:=rfl;generalize Mo aR ⟨xk,xn,xl,xh,xw,xb,xv,xc,.mk yk yn ys yks⟩ ((bP aR).all A)=G at *;refine Rr ?_;refine bA.at bB (fun p:Nat × List Key=>p.1<=xc.length/\∀q∈p.2,f7 q)
      (fun p=>⟨[(0,.ptr 0 0 0),(4,.ptr 2 0 0),(5,.ptr 3 0 0),(9,.ptr 4 0 0),(58,.il 1 (bG xc)),(59,.int .i64 xc.length),(60,.int .i64 p.1)],NV A i p.2 (G p.1),5,146⟩)
      (fun p=>xc.length-p.1) (0,L) [(0,0),(1,1),(2,2),(3,3),(16,4)] ⟨VL _,hL⟩
      (aF _ rfl (vM (ib:=2) (ic:=3) (id:=16) rfl rfl rfl rfl rfl rfl rfl rfl rfl rfl (by rw[hs0];exact KO 1))
       ⟨aI,aI,aI,aI,aQ (.il' (a8 _)),⟨_,rfl,.int (by rw[aH])⟩,aJ,trivial⟩) ?_
     rintro⟨k,L1⟩ ⟨hk,hL1⟩;simp only at hk hL1 ⊢;obtain⟨x1,b1,hF1⟩:=Bh (G k);have nf1:=c9 (G k);rw[hF1] at nf1;unfold NV;rw[hF1];refine Rr ?_;refine aD (fun hb=>?_) (fun hb=>?_)
     ·have hlt:k<xc.length:=by simpa using hb
      obtain⟨x2,b2,hF2⟩:=Bh (G (k+1));have hsk:=hs k;have hsk1:=hs (k+1);have hnk:=hnx k hlt;have e1:(bG xc)[((k:Nat):Int).toNat]? = some (.int .i64 xc[k]):=by simp[bL,Ty hlt]
      obtain⟨q0,q1⟩:=hkm xc[k] (UW hlt);generalize xc[k]=q at *;obtain⟨q,rfl⟩:=UH q0;rw[T4] at q1 hnk;obtain⟨x3,b3,hF3⟩:=Bh ((bP aR).all A q);have iq:=ih q q1;refine Rr ?_;refine aC e1 ?_;refine Rr ?_;refine GH iq hL1 rfl hF3 fun L2 hL2=>?_
      refine Rt ?_;refine EP (r:=.agg [.bool false,.il 1 x2,.bool b2]) hsk (hav q q1) (by rw[←hnk];exact hsk1) hF1 hF3 (by rw[←hnk];exact hF2) rfl ?_;refine Rt ?_;have nf2:=c9 (G (k+1));rw[hF2] at nf2;exact .mk (k+1,L2) [(0,0),(1,1),(2,2),(3,3),(4,4)] ⟨by simp only;omega,hL2⟩
       (aF _ rfl (vM (ib:=2) (ic:=3) (id:=4) rfl rfl rfl rfl rfl rfl rfl rfl rfl rfl (by simp only;rw[hF2];exact zT _ _ nf2))
        ⟨aI,aI,aI,aI,aQ (.il' (a8 _)),aJ,⟨_,rfl,.int (by rw[bE ⟨by omega,by omega⟩];simp)⟩,trivial⟩) (by simp only;omega)
     ·have hke:k=xc.length:=by
       have:¬k<xc.length:=by simpa using hb
       omega
      conv=>whnf
      repeat(first|(refine hJ L1 _ [(0,0),(1,1),(2,2),(3,3),(4,4)] hL1 ?_;exact GI rfl rfl rfl rfl rfl rfl rfl rfl rfl rfl rfl (by rw[hp,←hke,hF1];exact zT x1 b1 nf1) rfl rfl rfl rfl rfl;done)|(refine Xg ?_;conv=>whnf))
    ·have k3:xk≠3:=by simpa using h
     rw[T5 k3] at hp;refine Rr ?_;refine aD (fun h=>?_) (fun h=>?_)
     ·have k2:xk=2:=by simpa using h
      rw[T7 k2] at hp;have hs:=hcs k2;have hnx:∀(k:Nat) (hk:k<xc.length),En aR ⟨xk,xn,xl,xh,xw,xb,xv,xc,.mk yk yn ys yks⟩ ((bP aR).all A) (k+1)=gK aR (En aR ⟨xk,xn,xl,xh,xw,xb,xv,xc,.mk yk yn ys yks⟩ ((bP aR).all A) k) (dI aR (some 1) ((bP aR).all A xc[k].toNat)):=fun k hk=>GB aR (x:=⟨xk,xn,xl,xh,xw,xb,xv,xc,.mk yk yn ys yks⟩) (al:=((bP aR).all A)) hk
      have hs0:En aR ⟨xk,xn,xl,xh,xw,xb,xv,xc,.mk yk yn ys yks⟩ ((bP aR).all A) 0=none:=rfl;generalize En aR ⟨xk,xn,xl,xh,xw,xb,xv,xc,.mk yk yn ys yks⟩ ((bP aR).all A)=G at *;refine Rt ?_;refine bA.at bB (fun p:Nat × List Key=>p.1<=xc.length/\∀q∈p.2,f7 q)
       (fun p=>⟨[(0,.ptr 0 0 0),(4,.ptr 2 0 0),(5,.ptr 3 0 0),(8,.ip (cN ⟨xk,xn,xl,xh,xw,xb,xv,xc,.mk yk yn ys yks⟩)),(9,.ptr 4 0 0),(77,.il 1 (bG xc)),(78,.int .i64 xc.length),(79,.int .i64 p.1)],NV A i p.2 (G p.1),5,146⟩)
       (fun p=>xc.length-p.1) (0,L) [(0,0),(1,1),(2,2),(3,3),(16,4)] ⟨VL _,hL⟩
       (aF _ rfl (vM (ib:=2) (ic:=3) (id:=16) rfl rfl rfl rfl rfl rfl rfl rfl rfl rfl (by rw[hs0];exact Ei))
        ⟨aI,aI,aI,aQ (.ip' nN),aI,aQ (.il' (a8 _)),⟨_,rfl,.int (by rw[aH])⟩,aJ,trivial⟩) ?_
      rintro⟨k,L1⟩ ⟨hk,hL1⟩;simp only at hk hL1 ⊢;obtain⟨x1,b1,hF1⟩:=Bh (G k);have nf1:=c9 (G k);rw[hF1] at nf1;unfold NV;rw[hF1];refine Rr ?_;refine aD (fun hb=>?_) (fun hb=>?_)
      ·have hlt:k<xc.length:=by simpa using hb
       obtain⟨x2,b2,hF2⟩:=Bh (G (k+1));have hsk:=hs k;have hsk1:=hs (k+1);have hnk:=hnx k hlt;have e1:(bG xc)[((k:Nat):Int).toNat]? = some (.int .i64 xc[k]):=by simp[bL,Ty hlt]
       obtain⟨q0,q1⟩:=hkm xc[k] (UW hlt);generalize xc[k]=q at *;obtain⟨q,rfl⟩:=UH q0;rw[T4] at q1 hnk;have hoq:=hav q q1;obtain⟨x3,b3,hF3⟩:=Bh ((bP aR).all A q);obtain⟨x4,b4,hF4⟩:=Bh (dI aR (some 1) ((bP aR).all A q));have iq:=ih q q1;refine Rr ?_;refine aC e1 ?_;refine Rr ?_;have hO:=QI _ (.ip' nN) k;rw[cM] at hO;refine hO.go ?_ (.cons (.ip' nN) (.cons nn .nil)) (.agg' (.cons (tB _) (.cons (tU _) .nil)));refine Rt ?_;refine GH (r:=.agg [.bool false,.il 1 x3,.bool b3]) iq hL1 rfl hF3 fun L2 hL2=>?_
       refine Rt ?_;refine EP (r:=.agg [.bool false,.il 1 x4,.bool b4]) (a:=some 1) ⟨1,qO _,rfl⟩ hoq (Aw hoq) rfl hF3 hF4 rfl ?_;refine Rt ?_;refine I2 (r:=.agg [.bool false,.il 1 x2,.bool b2]) hsk (Aw hoq) (by rw[←hnk];exact hsk1) hF1 hF4 (by rw[←hnk];exact hF2) rfl ?_;refine Rt ?_;have nf2:=c9 (G (k+1));rw[hF2] at nf2;exact .mk (k+1,L2) [(0,0),(1,1),(2,2),(3,3),(4,4)] ⟨by simp only;omega,hL2⟩
        (aF _ rfl (vM (ib:=2) (ic:=3) (id:=4) rfl rfl rfl rfl rfl rfl rfl rfl rfl rfl (by simp only;rw[hF2];exact zT _ _ nf2))
         ⟨aI,aI,aI,aQ (.ip' nN),aI,aQ (.il' (a8 _)),aJ,⟨_,rfl,.int (by rw[bE ⟨by omega,by omega⟩];simp)⟩,trivial⟩) (by simp only;omega)
      ·have hke:k=xc.length:=by
        have:¬k<xc.length:=by simpa using hb
        omega
       conv=>whnf
       repeat(first|(refine hJ L1 _ [(0,0),(1,1),(2,2),(3,3),(4,4)] hL1 ?_;exact GI rfl rfl rfl rfl rfl rfl rfl rfl rfl rfl rfl (by rw[hp,←hke,hF1];exact zT x1 b1 nf1) rfl rfl rfl rfl rfl;done)|(refine Xg ?_;conv=>whnf))
     ·have k2:xk≠2:=by simpa using h
      rw[T5 k2] at hp;refine Rr ?_;refine aD (fun h=>?_) (fun h=>?_)
      ·have k4:xk=4:=by simpa using h
       rw[T7 k4] at hp;have hs:=hbs k4;have hb4:=hbl k4;have hnx:∀(k:Nat) (hk:k<xv.length),E9 aR ⟨xk,xn,xl,xh,xw,xb,xv,xc,.mk yk yn ys yks⟩ ((bP aR).of A) ((bP aR).all A) (k+1)=gK aR (E9 aR ⟨xk,xn,xl,xh,xw,xb,xv,xc,.mk yk yn ys yks⟩ ((bP aR).of A) ((bP aR).all A) k) (dI aR ((bP aR).of A (xc.getD 0 0).toNat xv[k]) ((bP aR).all A (xc[k+1]'(by omega)).toNat)):=fun k hk=>Fv aR (x:=⟨xk,xn,xl,xh,xw,xb,xv,xc,.mk yk yn ys yks⟩) (of:=((bP aR).of A)) (al:=((bP aR).all A)) hk hb4
       have hs0:E9 aR ⟨xk,xn,xl,xh,xw,xb,xv,xc,.mk yk yn ys yks⟩ ((bP aR).of A) ((bP aR).all A) 0=none:=rfl;generalize E9 aR ⟨xk,xn,xl,xh,xw,xb,xv,xc,.mk yk yn ys yks⟩ ((bP aR).of A) ((bP aR).all A)=G at *;refine Rt ?_;refine bA.at bB (fun p:Nat × List Key=>p.1<=xv.length/\∀q∈p.2,f7 q)
        (fun p=>⟨[(0,.ptr 0 0 0),(4,.ptr 2 0 0),(5,.ptr 3 0 0),(8,.ip (cN ⟨xk,xn,xl,xh,xw,xb,xv,xc,.mk yk yn ys yks⟩)),(9,.ptr 4 0 0),(107,.il 4 (aS xv)),(108,.int .i64 xv.length),(109,.int .i64 p.1)],NV A i p.2 (G p.1),5,146⟩)
        (fun p=>xv.length-p.1) (0,L) [(0,0),(1,1),(2,2),(3,3),(16,4)] ⟨VL _,hL⟩
        (aF _ rfl (vM (ib:=2) (ic:=3) (id:=16) rfl rfl rfl rfl rfl rfl rfl rfl rfl rfl (by rw[hs0];exact Ei))
         ⟨aI,aI,aI,aQ (.ip' nN),aI,aQ (.il' (bC _)),⟨_,rfl,.int (by rw[aB])⟩,aJ,trivial⟩) ?_
       rintro⟨k,L1⟩ ⟨hk,hL1⟩;simp only at hk hL1 ⊢;obtain⟨x1,b1,hF1⟩:=Bh (G k);have nf1:=c9 (G k);rw[hF1] at nf1;unfold NV;rw[hF1];refine Rr ?_;refine aD (fun hb=>?_) (fun hb=>?_)
       ·have hlt:k<xv.length:=by simpa using hb
        have hlt2:k+1<xc.length:=by omega
        have hlt0:0<xc.length:=by omega
        obtain⟨x2,b2,hF2⟩:=Bh (G (k+1));have nf2:=c9 (G (k+1));rw[hF2] at nf2;have hsk:=hs k;have hsk1:=hs (k+1);have hnk:=hnx k hlt;have e1:(aS xv)[((k:Nat):Int).toNat]? = some (cK xv[k]):=by rw[T4,kE,Ty hlt];rfl
        have hwr:IntKind.i64.wrap ((k:Int)+1)=((k+1:Nat):Int):=by
         rw[bE ⟨by omega,by omega⟩];simp
        have e2:(bG xc)[((k+1:Nat):Int).toNat]? = some (.int .i64 xc[k+1]):=by
         rw[T4];simp[bL,Ty hlt2]
        have e0:(bG xc)[(0:Int).toNat]? = some (.int .i64 (xc.getD 0 0)):=by
         rw[show (0:Int).toNat=0 from rfl,T1,Ty hlt0];simp[bL,Ty hlt0]
        obtain⟨q0,q1⟩:=hkm xc[k+1] (UW hlt2);obtain⟨p0,p1⟩:=hkm (xc.getD 0 0) (by rw[T1,Ty hlt0];exact UW hlt0);obtain⟨ok1,sz1⟩:=hvv _ (UW hlt);generalize xc[k+1]=q at *;generalize xc.getD 0 0=p at *;generalize xv[k]=u at *;obtain⟨q,rfl⟩:=UH q0;obtain⟨p,rfl⟩:=UH p0;rw[T4] at q1 p1;rw[T4,T4] at hnk;have hoq:=hav q q1;have hop:=hov p p1 u;have iq:=ih q q1;have ip:=hofc p p1;obtain⟨x4,b4,hF4⟩:=Bh ((bP aR).of A p u);obtain⟨x3,b3,hF3⟩:=Bh ((bP aR).all A q);obtain⟨u1,u2,u3,u4⟩:=u;have hpr:=Fu hsk hop hoq (by rw[←hnk];exact hsk1);obtain⟨x5,b5,hF5⟩:=Bh (dI aR ((bP aR).of A p (.mk u1 u2 u3 u4)) ((bP aR).all A q));refine Rr ?_;refine aC e1 ?_;refine Rr ?_;refine aC e0 ?_;refine Rr ?_;rw[hwr];refine Rr ?_;refine aC e2 ?_;refine Rr ?_;refine Dh ip hL1 ok1 sz1 rfl hF4 fun L2 hL2=>?_
        refine Rr ?_;repeat((first|refine dN.2 ?_|refine bH ?_|refine aC e2 ?_|refine aC e0 ?_);refine Rr ?_)
        refine GH iq hL2 rfl hF3 fun L3 hL3=>?_
        refine Rr ?_;repeat((first|refine dN.2 ?_|refine bH ?_|refine aC e2 ?_|refine aC e0 ?_);refine Rr ?_)
        refine EP (r:=.agg [.bool false,.il 1 x5,.bool b5]) hop hoq hpr hF4 hF3 hF5 rfl ?_;refine Rr ?_;repeat((first|refine dN.2 ?_|refine bH ?_|refine aC e2 ?_|refine aC e0 ?_);refine Rr ?_)
        refine I2 (r:=.agg [.bool false,.il 1 x2,.bool b2]) hsk hpr (by rw[←hnk];exact hsk1) hF1 hF5 (by rw[←hnk];exact hF2) rfl ?_;refine Rt ?_;exact .mk (k+1,L3) [(0,0),(1,1),(2,2),(3,3),(4,4)] ⟨by simp only;omega,hL3⟩
         (aF _ rfl (vM (ib:=2) (ic:=3) (id:=4) rfl rfl rfl rfl rfl rfl rfl rfl rfl rfl (by simp only;rw[hF2];exact zT _ _ nf2))
          ⟨aI,aI,aI,aQ (.ip' nN),aI,aQ (.il' (bC _)),aJ,⟨_,rfl,.int (by rw[bE ⟨by omega,by omega⟩];simp)⟩,trivial⟩) (by simp only;omega)
       ·have hke:k=xv.length:=by
         have:¬k<xv.length:=by simpa using hb
         omega
        conv=>whnf
        repeat(first|(refine hJ L1 _ [(0,0),(1,1),(2,2),(3,3),(4,4)] hL1 ?_;exact GI rfl rfl rfl rfl rfl rfl rfl rfl rfl rfl rfl (by rw[hp,←hke,hF1];exact zT x1 b1 nf1) rfl rfl rfl rfl rfl;done)|(refine Xg ?_;conv=>whnf))
      ·have k4:xk≠4:=by simpa using h
       rw[T5 k4] at hp
       conv=>whnf
       repeat(first|(refine hJ L _ [(0,0),(1,1),(2,2),(3,3),(16,4)] hL ?_;exact GI rfl rfl rfl rfl rfl rfl rfl rfl rfl rfl rfl (by rw[hp];exact KO 1) rfl rfl rfl rfl rfl;done)|(refine Xg ?_;conv=>whnf))
  ·have nf:=c9 res;have hkok:f7 (i,none):=trivial;generalize hk:((i,none):Key)=kk at *;cases h2:uM a kk with
   | false=>
    have hf:=hfn a h2;have hs:=hsn a;clear hfn hfy hsn hlk hp;unfold jA NV;generalize oY gY aR A a=E at *;obtain⟨x,b,hF⟩:∃x b,gY res = .agg [.bool false,.il 1 x,.bool b]:=by cases res<;>exact⟨_,_,rfl⟩
    rw[hF] at hs nf ⊢;refine Rr ?_;rw[hf];refine Rr ?_;refine gE.2 ?_;refine Rr ?_;refine bJ (n':=2) (m':=q7 A (a++[kk])) [(0,0),(1,1)] rfl (cR (i:=0) (j:=1) rfl rfl rfl (by rw[hs];rfl)) (.same _ (by assumption)) ⟨a++[kk],fun q hq=>?_,hF.symm,rfl,rfl⟩;rcases UI.1 hq with hq|hq
    ·exact ha q hq
    ·rw[VD.1 hq];exact hkok
   | true=>
    obtain⟨j,hj,he⟩:=hfy a ha h2;clear hfn hfy hsn hlk hp;unfold jA NV;generalize hE:oY gY aR A a=E at *;rw[UT] at hj;obtain⟨x,b,hF⟩:∃x b,gY res = .agg [.bool false,.il 1 x,.bool b]:=by cases res<;>exact⟨_,_,rfl⟩
    rw[hF] at hj he nf ⊢;refine Rr ?_;rw[hj];refine Rr ?_;refine aC he ?_;refine Rr ?_;refine aM hss ?_;refine Rr ?_;refine dN.2 ?_;rw[HN he];refine Rr ?_;exact bJ (n':=2) (m':=q7 A a) [(0,0),(1,1)] rfl (cR (i:=0) (j:=1) rfl rfl rfl (by rw[hE];rfl)) (.same _ nf) ⟨a,ha,hF.symm,rfl,rfl⟩
set_option maxHeartbeats 4000000
theorem Kx(n:Int):i64 (IntKind.i64.wrap n):=by
 rw[IntKind.wrap_i64];exact⟨by omega,by omega⟩
theorem Ou(n most:Int)(hn:i64 n)(hm:1<=most):aZ prog [] 30 [.int .i64 n,.int .i64 most] (.int .i64 (qP n most)):=by
 have hz:decide (most≠0)=true:=by simp;omega
 unfold i64 at hn;refine aG bB func30 rfl ?_;refine Rr ?_;refine aD (fun h=>?_) (fun h=>?_)
 ·have h:n<0:=by simpa using h
  refine Rr ?_;refine aM (by rw[UO (by omega)];rfl) ?_;refine Rr ?_;refine aA nn ⟨?_,rfl,rfl⟩;rw[qP,T7 h,w64 (x:=n+1) (y:=n+1) rfl ⟨by omega,by omega⟩,w64 (x:=0-(n+1)) (y:=-(n+1)) (by omega) ⟨by omega,by omega⟩]
 ·have h:¬n<0:=by simpa using h
  refine Rr ?_;refine aM (by rw[UO (by omega)];rfl) ?_;refine Rr ?_;refine aA nn ⟨?_,rfl,rfl⟩;rw[qP,T5 h]
theorem Gr(l:List Int)(i most:Int)(hl:∀x∈l,i64 x)(hm:1<=most):aZ prog [] 26 [.il 1 (bG l),.int .i64 i,.int .i64 most] (.int .i64 (kX l i most)):=by
 refine aG bB func26 rfl ?_;refine Rr ?_;refine aD (fun h=>?_) (fun h=>?_)
 ·rw[h];refine Rr ?_;refine aA nn ⟨?_,rfl,rfl⟩;rw[kX,T7 (.inl (by simpa using h))]
 ·have h0:0<=i:=by simpa using h
  rw[h];refine Rr ?_;refine aD (fun h=>?_) (fun h=>?_)
  ·refine Rr ?_;refine aA nn ⟨?_,rfl,rfl⟩;rw[aH] at h;rw[kX,T7 (.inr (by simpa using h))]
  ·rw[aH] at h;have h1:i<l.length:=by simpa using h
   obtain⟨q,rfl⟩:=UH h0;have hq:q<l.length:=by omega
   refine Rr ?_;refine aC (a:=.int .i64 l[q]) (by rw[T4,bL,Ty hq];rfl) ?_;refine Rr ?_;refine(Ou l[q] most (hl _ (UW hq)) hm).go ?_;refine Rr ?_;refine aA nn ⟨?_,rfl,rfl⟩;rw[kX,T5 (by omega),T4,T1,Ty hq];rfl
theorem Md(l:List Int)(i j:Int)(hl:∀x∈l,i64 x)(hi:1<=i)(hi':i<=1000)(hj:0<=j)(hj':j<=1000):aZ prog [] 28 [.il 1 (bG l),.int .i64 i,.int .i64 j] (.int .i64 (kidI l i j)):=by
 have hp:=Gr l (3*i+j+2) 1000000 hl (by omega);have hb:=kC (l:=l) (i:=3*i+j+2) (most:=1000000) (by omega);have hk:kidI l i j=if (kX l (3*i+j+2) 1000000).tmod 3=0 then((kX l (3*i+j+2) 1000000).tdiv 3).tmod i else max 0 (i-1-((kX l (3*i+j+2) 1000000).tdiv 3).tmod 3):=rfl
 generalize kX l (3*i+j+2) 1000000=p at hp hb hk;rw[hk];have hd:0<=p.tdiv 3/\p.tdiv 3<=1000000:=by
  rw[Vy hb.1];omega
 have hd3:0<=(p.tdiv 3).tmod 3/\(p.tdiv 3).tmod 3<3:=⟨Vo _ hd.1,VZ _ (by omega)⟩
 refine aG bB func28 rfl ?_;refine Rr ?_;rw[w64 (x:=3*i) (y:=3*i) rfl ⟨by omega,by omega⟩,w64 (x:=3*i+j) (y:=3*i+j) rfl ⟨by omega,by omega⟩,w64 (x:=3*i+j+2) (y:=3*i+j+2) rfl ⟨by omega,by omega⟩];refine hp.go ?_;refine Rr ?_;refine aD (fun h=>?_) (fun h=>?_)
 ·have h:p.tmod 3=0:=by simpa using h
  refine Rr ?_;refine aM (by rw[UO (by omega)];rfl) ?_;refine Rr ?_;refine aA nn ⟨?_,rfl,rfl⟩;rw[T7 h,w64 (x:=p.tdiv 3) (y:=p.tdiv 3) rfl ⟨by omega,by omega⟩]
 ·have h:¬p.tmod 3=0:=by simpa using h
  refine Rr ?_;refine aA nn ⟨?_,rfl,rfl⟩;rw[T5 h,w64 (x:=p.tdiv 3) (y:=p.tdiv 3) rfl ⟨by omega,by omega⟩,w64 (x:=i-1) (y:=i-1) rfl ⟨by omega,by omega⟩,w64 (x:=i-1-(p.tdiv 3).tmod 3) (y:=i-1-(p.tdiv 3).tmod 3) rfl ⟨by omega,by omega⟩];congr 1;simp;omega
theorem Po(k:Int)(h0:0<=k)(h1:k<=1000000):aZ prog [] 27 [.int .i64 k] (cK (u6 k)):=by
 have hd:0<=k.tdiv 4/\k.tdiv 4<=1000000:=by
  rw[Vy h0];omega
 have hm:0<=k.tmod 4/\k.tmod 4<4:=⟨Vo _ h0,VZ _ (by omega)⟩
 have h9:0<=(k.tdiv 4).tmod 9/\(k.tdiv 4).tmod 9<9:=⟨Vo _ hd.1,VZ _ (by omega)⟩
 have h3:0<=(k.tdiv 4).tmod 3/\(k.tdiv 4).tmod 3<3:=⟨Vo _ hd.1,VZ _ (by omega)⟩
 have hw:IntKind.i64.wrap (k.tdiv 4)=k.tdiv 4:=w64 rfl ⟨by omega,by omega⟩;have hv:u6 k=if k.tmod 4=0 then .mk 0 ((k.tdiv 4).tmod 9-4) [] []
  else if k.tmod 4=1 then .mk 1 ((k.tdiv 4).tmod 2) [] []
  else if k.tmod 4=2 then .mk 3 0 (([[76,101,97,102],[82,101,100],[88]]:List (List UInt8)).getD ((k.tdiv 4).tmod 3).toNat []) []
  else .mk 2 0 [] [.mk 0 ((k.tdiv 4).tmod 3) [] []]:=rfl
 generalize u6 k=v at hv;have hw9:IntKind.i64.wrap ((k.tdiv 4).tmod 9-4)=(k.tdiv 4).tmod 9-4:=w64 rfl ⟨by omega,by omega⟩;refine aG bB func27 rfl ?_;rcases(show k.tmod 4=0∨k.tmod 4=1∨k.tmod 4=2∨k.tmod 4=3 by omega) with e|e|e|e
 ·rw[T7 e] at hv;refine Rr ?_;rw[e];refine Rr ?_;rw[hw,hw9];exact gL (.agg' (.s (.s (.s (.cons (.nil 4) .nil))))) ⟨by rw[hv];rfl,rfl,rfl⟩
 ·rw[T5 (by omega),T7 e] at hv;refine Rr ?_;rw[e];refine Rr ?_;rw[hw];exact gL (.agg' (.s (.s (.s (.cons (.nil 4) .nil))))) ⟨by rw[hv];rfl,rfl,rfl⟩
 ·rw[T5 (by omega),T5 (by omega),T7 e] at hv;refine Rr ?_;rw[e];refine Rr ?_;rw[hw];rcases(show (k.tdiv 4).tmod 3=0∨(k.tdiv 4).tmod 3=1∨(k.tdiv 4).tmod 3=2 by omega) with e3|e3|e3
  all_goals
   rw[e3] at hv ⊢;refine Rr ?_;exact gL (.agg' (.s (.s (.s (.cons (.nil 4) .nil))))) ⟨by rw[hv];rfl,rfl,rfl⟩
 ·rw[T5 (by omega),T5 (by omega),T5 (by omega)] at hv;refine Rr ?_;rw[e];refine Rr ?_;rw[hw];exact gL (.agg' (.s (.s (.s (.cons (.fzR rfl rfl (.cons (JY _ _ _) .nil) rfl) .nil))))) ⟨by rw[hv];rfl,rfl,rfl⟩
end Go.Proofs.YtidjhgajglebnaaGreatDoor
