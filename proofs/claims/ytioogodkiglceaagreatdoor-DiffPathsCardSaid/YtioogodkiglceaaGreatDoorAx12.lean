/- A part of the proof. -/
import Derived.Test.YtioogodkiglceaaGreatDoorAx11
import Derived.Test.YtioogodkiglceaaGreatDoorProg
import Derived.KernelRfl
set_option linter.unusedVariables false
set_option linter.unusedSimpArgs false
set_option linter.unusedSectionVars false
namespace Go.Proofs.YtioogodkiglceaaGreatDoor
open Go Go.Ax Go.Proofs Tryz
theorem oQ{l:List Int}{k:Nat}(h:k<l.length):(aS l)[(k:Int).toNat]? = some (.int .i64 l[k]):=by
 rw[Va,a8,VV h];rfl
theorem rP{mem:aP}{id len:Nat}{t:TypeId}{sz:Nat}{xs ys:List AV}(h1:lk mem id=some (.row t sz xs))(e:len=xs.length)(h:xs=ys)(h5:jZ ys):Cv mem [] (.sl id 0 len) (.il sz ys):=by
 subst h e;exact .fz' (id:=id) h1 rfl om (by rw[V7];exact Vl om) h5
set_option maxRecDepth 100000
set_option maxHeartbeats 16000000
def Ul(A:List Nd):AV:=.agg [.ip (.agg [.il 12 (aW A)]),.il 1 (aS (aX A)),.il 4 (aQ (cS A))]
def wk(A:List Nd):AV:=.ip (Ul A)
theorem RY(A:List Nd):NN (Ul A):=.agg' (.cons (.ip' (.agg' (.cons (.il' (aY A)) .nil))) (.cons (.il' (aM _)) (.cons (.il' (aO _)) .nil)))
theorem gV(A:List Nd):NN (wk A):=.ip' (RY A)
theorem KU{A:List Nd}{i:Nat}(hi:i<A.length):(aS (aX A))[((i:Nat):Int).toNat]? = some (.int .i64 (dR (aX A) i)):=by
 have h:i<(aX A).length:=by rw[fS];exact hi
 rw[Va,a8,VV h];unfold dR;rw[Va,VW,VV h];rfl
theorem KL{A:List Nd}{i:Nat}(hi:i<A.length):(aQ (cS A))[((i:Nat):Int).toNat]? = some (bS (D4 (cS A) i)):=by
 have h:i<(cS A).length:=by rw[jJ];exact hi
 rw[Va,iT,VV h];unfold D4;rw[VW,VV h];rfl
theorem pQ{A:List Nd}{i:Nat}(hi:i<A.length):(aW A)[((i:Nat):Int).toNat]? = some (bW (aE A i)):=by
 rw[Va,gK,bY hi];rfl
theorem HM{A:List Nd}{i:Nat}(hi:i<A.length):bB prog [] 90 [wk A,.int .i64 i] (.int .i64 (dR (aX A) i)):=by
 have e:=KU hi;refine aK bG func90 rfl ?_;refine Rr ?_;refine aD e ?_;refine Rr ?_;exact aA nn ⟨rfl,rfl,rfl⟩
theorem Rw{A:List Nd}{i:Nat}(hi:i<A.length):bB prog [] 91 [wk A,.int .i64 i] (bS (D4 (cS A) i)):=by
 have e:=KL hi;generalize D4 (cS A) i=v at *;obtain⟨v1,v2,v3,v4⟩:=v;refine aK bG func91 rfl ?_;refine Rr ?_;refine aD e ?_;refine Rr ?_;exact aA nn ⟨rfl,rfl,rfl⟩
theorem Tu{A:List Nd}(hp:0<A.length)(hl:A.length<=100000):bB prog [] 27 [wk A] (.int .i64 ((A.length-1:Nat):Int)):=by
 have hw:IntKind.i64.wrap (((aW A).length:Int)-1)=((A.length-1:Nat):Int):=by rw[bD,cV ⟨om,om⟩];omega
 refine aK bG func27 rfl ?_;refine Rr ?_;exact dK (.int hw) ⟨rfl,rfl,rfl⟩
theorem HS(x:Nd)(h:x.kind=1->dX x=true):bB prog [] 60 [.ip (bW x)] (.int .i64 (fK x)):=by
 have hr:x.kind=1->x.lo<=x.hi/\x.hi<x.lo+1099511627776:=fun e=>⟨(dD (h e)).1,(dD (h e)).2.2.2⟩
 have ho:fK x=if x.kind=1 then x.hi-x.lo+1 else x.kids.length:=rfl
 clear h;obtain⟨kind,name,lo,hi,ws,ls,vals,kids,⟨vk,vn,vs,vks⟩⟩:=x;simp only at hr ho;generalize fK ⟨kind,name,lo,hi,ws,ls,vals,kids,.mk vk vn vs vks⟩=o at *;refine aK bG func60 rfl ?_;refine Rr ?_;refine aI (fun h=>?_) (fun h=>?_)
 ·have h1:kind=1:=by simpa using h
  obtain⟨r1,r2⟩:=hr h1;rw[Vb h1] at ho;have hw:IntKind.i64.wrap (hi-lo)=hi-lo:=cV ⟨om,om⟩;have hw2:IntKind.i64.wrap (hi-lo+1)=o:=by rw[cV ⟨om,om⟩,ho]
  refine Rt ?_;rw[hw,hw2];exact aA nn ⟨rfl,rfl,rfl⟩
 ·have h1:¬kind=1:=by simpa using h
  rw[VY h1] at ho;refine Rr ?_;exact dK (.int (by rw[ho,aC])) ⟨rfl,rfl,rfl⟩
theorem Qk(x:Nd)(v:a6)(hl:x.values.length<=4294967296)(hok:∀a∈x.values,gH a)(hs:lN x.values):bB prog [] 85 [.ip (bW x),bS v] (.int .i64 (((cD x.values v).1+1:Nat):Int)):=by
 have hf:=Q9 x.values v hl hok hs;have hle:=rB x.values v;obtain⟨kind,name,lo,hi,ws,ls,vals,kids,⟨vk,vn,vs,vks⟩⟩:=x;simp only at hf hle hl ⊢;generalize (cD vals v).1=k at *;generalize (cD vals v).2=b at *;obtain⟨v1,v2,v3,v4⟩:=v;refine aK bG func85 rfl ?_;refine Rr ?_;refine hf.go ?_;refine Rt ?_;exact dK (.w64 om ⟨om,om⟩) ⟨rfl,rfl,rfl⟩
set_option maxRecDepth 100000
set_option maxHeartbeats 4000000
theorem Nc:∀v:a6,bF v<=1099511627776->bB prog [] 67 [bS v] (.int .i64 (bF v))
 | .mk vk vn vs ks,hs=>by
  have hs':cJ ks+1<=1099511627776:=by simp only[bF] at hs;omega
  have ih:∀a∈ks,bB prog [] 67 [bS a] (.int .i64 (bF a)):=fun a hm=>Nc a (by have:=Aa hm;omega)
  have hl:=Al ks;refine aK bG func67 rfl ?_;refine Rr ?_;refine bC.at bG (fun k:Nat=>k<=ks.length)
   (fun k=>⟨[(1,.ptr 0 0 0),(3,.int .i64 (1+cJ (ks.take k):Nat)),(4,.int .i64 k)],[(0,.row 38 4 [bS (.mk vk vn vs ks)])],1,21⟩)
   (fun k=>ks.length-k) 0 [(0,0)] (by simp)
   (aG _ rfl ⟨aL 0 dE,trivial⟩ ⟨aJ,aF,aF,trivial⟩) ?_
  intro k hk;refine Rr ?_;refine aI (fun h=>?_) (fun h=>?_)
  ·have hlt:=G7 h;obtain⟨a,b,c,d,hm,hg,he,e1⟩:=bT hlt;have hsz:=pV hlt;have hle:=j9 ks (k+1);rw[he] at hsz;refine Rr ?_;refine aD e1 ?_;refine Rr ?_;refine(ih _ hm).go ?_;refine Rr ?_;exact .mk (k+1) [(0,0)] om (aG _ rfl ⟨aL 0 dE,trivial⟩ ⟨aJ,⟨_,rfl,.w64 om ⟨om,om⟩⟩,⟨_,rfl,.w64 om ⟨om,om⟩⟩,trivial⟩) om
  ·have hk':k=ks.length:=by have:=IJ h;omega
   refine Rr ?_;refine aA nn ⟨?_,rfl,rfl⟩;rw[hk',Vr,bF]
 termination_by v=>SizeOf.sizeOf v
 decreasing_by simp;have:=Wo hm;omega
theorem PX(c:Int):bB prog [] 131 [.int .u8 c] (.bool (wJ c)):=by
 refine aK bG func131 rfl ?_;refine Rr ?_;repeat' (refine aI (fun h=>?_) (fun h=>?_)<;>((try rw[h]);refine Rr ?_))
 all_goals
  refine aA nn ⟨?_,rfl,rfl⟩;congr 1;rw[V5];simp[wJ] at *;try omega
theorem Mc(s:List UInt8)(hs:s.length<=4294967296):bB prog [] 115 [.str s] (.bool (eP s)):=by
  refine aK bG func115 rfl ?_;refine Rr ?_;refine aI (fun h=>?_) (fun h=>?_)
  · rw[h]
    refine Rr ?_;refine aA nn ⟨?_,rfl,rfl⟩;rw[u9 (by simp at h;omega)]
  have h1:1<=s.length:=by simp at h;omega
  rw[h];refine Rr ?_;refine aI (fun h=>?_) (fun h=>?_)
  · rw[h]
    refine Rr ?_;refine aA nn ⟨?_,rfl,rfl⟩;rw[oJ (by simp at h;omega)]
  have h2:s.length<=16:=by simp at h;omega
  rw[h];obtain⟨a,ha⟩:∃a,s[0]? = some a:=⟨s[0],by simp⟩
  refine Rr ?_;refine aD ha ?_;refine Rr ?_;refine aI (fun h=>?_) (fun h=>?_)
  · rw[h]
    refine Rr ?_;refine aA nn ⟨?_,rfl,rfl⟩;rw[kW ha (by simp[oB] at *;omega)]
  have h3:65<=(a.toNat:Int):=by simpa using h
  rw[h];refine Rr ?_;refine aD ha ?_;refine Rr ?_;refine aI (fun h=>?_) (fun h=>?_)
  · refine Rr ?_
    refine aA nn ⟨?_,rfl,rfl⟩;rw[kW ha (by simp[oB] at *;omega)]
  have h4:(a.toNat:Int)<=90:=by simpa using h
  refine Rr ?_;refine bC.at bG (fun i:Nat=>i<=s.length/\∀j c,j<i->s[j]? = some c->wJ c.toNat=true)
    (fun i=>⟨[(0,.str s),(3,.int .i64 i)],[],0,64⟩) (fun i=>s.length-i) 0 [] ⟨by simp,by simp⟩
    (bX ⟨aF,aF,trivial⟩) ?_
  rintro i ⟨hi,hall⟩;refine Rr ?_;refine aI (fun h=>?_) (fun h=>?_)
  · have hlt:i<s.length:=by simpa using h
    obtain⟨c,hc⟩:∃c,s[i]? = some c:=⟨s[i],by simp[hlt]⟩
    have hc':s[(i:Int).toNat]? = some c:=by rw[Va];exact hc
    refine Rr ?_;refine aD hc' ?_;refine Rr ?_;repeat' (refine aI (fun h=>?_) (fun h=>?_)<;>((try rw[h]);refine Rr ?_))
    all_goals first
      | (refine aA nn ⟨?_,rfl,rfl⟩
         rw[x7 hc (by rw[Ws];simp[wJ] at *;omega)])
      | (refine .mk (i+1) [] ⟨om,fun j c2 hj hc2=>?_⟩ (bX ⟨aF,⟨_,rfl,.w64 om ⟨om,om⟩⟩,trivial⟩) om
         rcases Vm j i with hj'|hj'
         · exact hall j c2 hj' hc2
         · have hji:j=i:=om
           rw[hji,hc] at hc2;cases hc2;simp[wJ] at *;omega)
  · refine Rr ?_
    refine aA nn ⟨?_,rfl,rfl⟩;have hk:i=s.length:=by simp at h;omega
    rw[xI ha h2 (by simp[oB];omega) fun j c hc=>hall j c (by rw[hk];exact(VX.1 hc).1) hc]
theorem NI(s:List UInt8)(hs:s.length<=4294967296):bB prog [] 119 [.str s] (.bool (eP s)):=by
 refine aK bG func119 rfl ?_;refine Rr ?_;refine aI (fun h=>?_) (fun h=>?_)
 ·rw[h];refine Rr ?_;refine aA nn ⟨?_,rfl,rfl⟩;rw[u9 (by simp at h;rw[h];simp)]
 have h1:1<=s.length:=by
  rcases V6 s.length with h'|h'
  ·rw[Vj h'] at h;simp at h
  ·exact h'
 rw[h];refine Rr ?_;refine aI (fun h=>?_) (fun h=>?_)
 ·rw[h];refine Rr ?_;refine aA nn ⟨?_,rfl,rfl⟩;rw[oJ (by simp at h;omega)]
 have h2:s.length<=16:=by simp at h;omega
 rw[h];obtain⟨a,ha⟩:∃a,s[0]? = some a:=⟨s[0],by simp⟩
 refine Rr ?_;refine aD ha ?_;refine Rr ?_;refine aI (fun h=>?_) (fun h=>?_)
 ·rw[h];refine Rr ?_;refine aA nn ⟨?_,rfl,rfl⟩;rw[kW ha (by simp[oB] at *;omega)]
 have h3:65<=(a.toNat:Int):=by simpa using h
 rw[h];refine Rr ?_;refine aD ha ?_;refine Rr ?_;refine aI (fun h=>?_) (fun h=>?_)
 ·refine Rr ?_;refine aA nn ⟨?_,rfl,rfl⟩;rw[kW ha (by simp[oB] at *;omega)]
 have h4:(a.toNat:Int)<=90:=by simpa using h
 have hua:oB a.toNat=true:=by simp[oB];omega
 refine Rr ?_;refine bC.at bG (fun i:Nat=>1<=i/\i<=s.length/\∀j c,j<i->s[j]? = some c->wJ c.toNat=true)
  (fun i=>⟨[(0,.str s),(3,.int .i64 i)],[],0,32⟩) (fun i=>s.length-i) 1 [] ⟨by simp,h1,fun j c hj hc=>by rw[show j=0 by omega,ha] at hc;cases hc;exact Hm hua⟩
  (bX ⟨aF,aF,trivial⟩) ?_
 rintro i ⟨h0,hi,hall⟩;refine Rr ?_;refine aI (fun h=>?_) (fun h=>?_)
 ·have hlt:i<s.length:=by simpa using h
  obtain⟨c,hc⟩:∃c,s[i]? = some c:=⟨s[i],by simp[hlt]⟩
  have hc':s[(i:Int).toNat]? = some c:=by rw[Va];exact hc
  refine Rr ?_;refine aD hc' ?_;refine Rr ?_;refine(PX c.toNat).go ?_;refine Rr ?_;cases hb:wJ c.toNat with
  | false=>
   refine Rr ?_;refine aA nn ⟨?_,rfl,rfl⟩;rw[x7 hc hb]
  | true=>
   refine Rr ?_;refine .mk (i+1) [] ⟨om,om,fun j c2 hj hc2=>?_⟩ (bX ⟨aF,⟨_,rfl,.w64 om ⟨om,om⟩⟩,trivial⟩) om;rcases Vm j i with hj'|hj'
   ·exact hall j c2 hj' hc2
   ·have hji:j=i:=om;rw[hji,hc] at hc2;cases hc2;exact hb
 ·refine Rr ?_;refine aA nn ⟨?_,rfl,rfl⟩;have hk:i=s.length:=by simp at h;omega
  rw[xI ha h2 hua fun j c hc=>hall j c (by rw[hk];exact(VX.1 hc).1) hc]
set_option maxRecDepth 100000
set_option maxHeartbeats 4000000
theorem QS(vk vn:Int)(vs:List UInt8)(ks:List a6)(hs:vs.length<=4294967296):bB prog [] 103 [bS (.mk vk vn vs ks)] (.bool (cX vk vn vs ks.length)):=by
 refine aK bG func103 rfl ?_;refine Rr ?_;repeat' (first|(refine aI (fun h=>?_) (fun h=>?_)<;>((try rw[h]);refine Rr ?_))|(refine(NI vs hs).go ?_;refine Rr ?_))
 all_goals
  refine aA nn ⟨?_,rfl,rfl⟩;congr 1;rw[V5];simp_all[cX,aB,WL,List.isEmpty_iff]
theorem Tf(vk vn:Int)(vs:List UInt8)(ks:List a6):bB prog [] 104 [bS (.mk vk vn vs ks)] (.bool (xB vk ks.length)):=by
 refine aK bG func104 rfl ?_;refine Rr ?_;repeat' (refine aI (fun h=>?_) (fun h=>?_)<;>((try rw[h]);refine Rr ?_))
 all_goals
  refine aA nn ⟨?_,rfl,rfl⟩;congr 1;rw[V5];simp[xB,aB] at *;try omega
theorem Kv:∀v:a6,gH v->bB prog [] 96 [bS v] (.bool (bQ v))
  | .mk vk vn vs ks,hv=>by
    simp only[gH] at hv;obtain⟨hv1,hv2,hv3,hv4,hv5⟩:=hv;have ih:∀a∈ks,bB prog [] 96 [bS a] (.bool (bQ a)):=fun a hm=>Kv a (i8 hv5 a hm)
    clear hv5;refine aK bG func96 rfl ?_;refine Rr ?_;refine(Mc vs hv3).go ?_;obtain⟨cb,hcb⟩:∃cb,cb=eP vs:=⟨_,rfl⟩
    rw[←hcb];rcases(show vk=0∨vk=1∨vk=2∨vk=3∨(vk<0∨3<vk) by omega) with rfl|rfl|rfl|rfl|hk
    · refine Rr ?_
      repeat' (refine aI (fun h=>?_) (fun h=>?_)<;>((try rw[h]);refine Rr ?_))
      all_goals first
        | (refine aA nn ⟨?_,rfl,rfl⟩
           clear ih;have hf1:cX 0 vn vs ks.length=false:=by
             rw[Ws];simp_all[cX,aB,WY];try omega
           rw[bQ,hf1];rfl)
        | (have hf1:cX 0 vn vs ks.length=true:=by
             clear ih;simp_all[cX,aB,WY];try omega
           refine bC.at bG (fun k:Nat=>k<=ks.length/\cO (ks.take k)=true)
             (fun k=>⟨[(1,.ptr 0 0 0),(4,.int .i64 k)],[(0,.row 38 4 [bS (.mk 0 vn vs ks)])],1,95⟩) (fun k=>ks.length-k) 0 [(0,0)] ⟨by simp,rfl⟩
             (aG _ rfl ⟨aL 0 dE,trivial⟩ ⟨aJ,aF,trivial⟩) ?_
           rintro k ⟨hk,hall⟩;refine Rr ?_;refine aI (fun h=>?_) (fun h=>?_)
           · have hlt:=G7 h
             obtain⟨a,b,c,d,hm,hg,he,e1⟩:=bT hlt;have hih:=ih _ hm;obtain⟨fb,hfb⟩:∃fb,fb=bQ (.mk a b c d):=⟨_,rfl⟩
             rw[←hfb] at hih;refine Rr ?_;refine aD e1 ?_;refine Rr ?_;refine hih.go ?_;cases fb with
             | false=>
               refine Rr ?_;refine aA nn ⟨?_,rfl,rfl⟩;rw[bQ,jN hm hfb.symm,XS]
             | true=>
               refine Rr ?_;refine .mk (k+1) [(0,0)] ⟨om, ?_⟩ (aG _ rfl ⟨aL 0 dE,trivial⟩ ⟨aJ,⟨_,rfl,.w64 om ⟨om,om⟩⟩,trivial⟩) om;rw[oP hlt,hall,he,←hfb];rfl
           · have hk':k=ks.length:=by have:=IJ h;omega
             refine Rr ?_;refine aA nn ⟨?_,rfl,rfl⟩;rw[hk',Vr] at hall;rw[bQ,hf1,hall];rfl)
    · refine Rr ?_
      repeat' (refine aI (fun h=>?_) (fun h=>?_)<;>((try rw[h]);refine Rr ?_))
      all_goals first
        | (refine aA nn ⟨?_,rfl,rfl⟩
           clear ih;have hf1:cX 1 vn vs ks.length=false:=by
             rw[Ws];simp_all[cX,aB,WY];try omega
           rw[bQ,hf1];rfl)
        | (have hf1:cX 1 vn vs ks.length=true:=by
             clear ih;simp_all[cX,aB,WY];try omega
           refine bC.at bG (fun k:Nat=>k<=ks.length/\cO (ks.take k)=true)
             (fun k=>⟨[(1,.ptr 0 0 0),(4,.int .i64 k)],[(0,.row 38 4 [bS (.mk 1 vn vs ks)])],1,95⟩) (fun k=>ks.length-k) 0 [(0,0)] ⟨by simp,rfl⟩
             (aG _ rfl ⟨aL 0 dE,trivial⟩ ⟨aJ,aF,trivial⟩) ?_
           rintro k ⟨hk,hall⟩;refine Rr ?_;refine aI (fun h=>?_) (fun h=>?_)
           · have hlt:=G7 h
             obtain⟨a,b,c,d,hm,hg,he,e1⟩:=bT hlt;have hih:=ih _ hm;obtain⟨fb,hfb⟩:∃fb,fb=bQ (.mk a b c d):=⟨_,rfl⟩
             rw[←hfb] at hih;refine Rr ?_;refine aD e1 ?_;refine Rr ?_;refine hih.go ?_;cases fb with
             | false=>
               refine Rr ?_;refine aA nn ⟨?_,rfl,rfl⟩;rw[bQ,jN hm hfb.symm,XS]
             | true=>
               refine Rr ?_;refine .mk (k+1) [(0,0)] ⟨om, ?_⟩ (aG _ rfl ⟨aL 0 dE,trivial⟩ ⟨aJ,⟨_,rfl,.w64 om ⟨om,om⟩⟩,trivial⟩) om;rw[oP hlt,hall,he,←hfb];rfl
           · have hk':k=ks.length:=by have:=IJ h;omega
             refine Rr ?_;refine aA nn ⟨?_,rfl,rfl⟩;rw[hk',Vr] at hall;rw[bQ,hf1,hall];rfl)
    · refine Rr ?_
      repeat' (refine aI (fun h=>?_) (fun h=>?_)<;>((try rw[h]);refine Rr ?_))
      all_goals first
        | (refine aA nn ⟨?_,rfl,rfl⟩
           clear ih;have hf1:cX 2 vn vs ks.length=false:=by
             rw[Ws];simp_all[cX];try omega
           rw[bQ,hf1];rfl)
        | (have hf1:cX 2 vn vs ks.length=true:=by
             clear ih;simp_all[cX];try omega
           refine bC.at bG (fun k:Nat=>k<=ks.length/\cO (ks.take k)=true)
             (fun k=>⟨[(1,.ptr 0 0 0),(4,.int .i64 k)],[(0,.row 38 4 [bS (.mk 2 vn vs ks)])],1,95⟩) (fun k=>ks.length-k) 0 [(0,0)] ⟨by simp,rfl⟩
             (aG _ rfl ⟨aL 0 dE,trivial⟩ ⟨aJ,aF,trivial⟩) ?_
           rintro k ⟨hk,hall⟩;refine Rr ?_;refine aI (fun h=>?_) (fun h=>?_)
           · have hlt:=G7 h
             obtain⟨a,b,c,d,hm,hg,he,e1⟩:=bT hlt;have hih:=ih _ hm;obtain⟨fb,hfb⟩:∃fb,fb=bQ (.mk a b c d):=⟨_,rfl⟩
             rw[←hfb] at hih;refine Rr ?_;refine aD e1 ?_;refine Rr ?_;refine hih.go ?_;cases fb with
             | false=>
               refine Rr ?_;refine aA nn ⟨?_,rfl,rfl⟩;rw[bQ,jN hm hfb.symm,XS]
             | true=>
               refine Rr ?_;refine .mk (k+1) [(0,0)] ⟨om, ?_⟩ (aG _ rfl ⟨aL 0 dE,trivial⟩ ⟨aJ,⟨_,rfl,.w64 om ⟨om,om⟩⟩,trivial⟩) om;rw[oP hlt,hall,he,←hfb];rfl
           · have hk':k=ks.length:=by have:=IJ h;omega
             refine Rr ?_;refine aA nn ⟨?_,rfl,rfl⟩;rw[hk',Vr] at hall;rw[bQ,hf1,hall];rfl)
    · refine Rr ?_
      repeat' (refine aI (fun h=>?_) (fun h=>?_)<;>((try rw[h]);refine Rr ?_))
      all_goals first
        | (refine aA nn ⟨?_,rfl,rfl⟩
           clear ih;have hf1:cX 3 vn vs ks.length=false:=by
             rw[Ws];simp_all[cX];try omega
           rw[bQ,hf1];rfl)
        | (have hf1:cX 3 vn vs ks.length=true:=by
             clear ih;simp_all[cX];try omega
           refine bC.at bG (fun k:Nat=>k<=ks.length/\cO (ks.take k)=true)
             (fun k=>⟨[(1,.ptr 0 0 0),(4,.int .i64 k)],[(0,.row 38 4 [bS (.mk 3 vn vs ks)])],1,95⟩) (fun k=>ks.length-k) 0 [(0,0)] ⟨by simp,rfl⟩
             (aG _ rfl ⟨aL 0 dE,trivial⟩ ⟨aJ,aF,trivial⟩) ?_
           rintro k ⟨hk,hall⟩;refine Rr ?_;refine aI (fun h=>?_) (fun h=>?_)
           · have hlt:=G7 h
             obtain⟨a,b,c,d,hm,hg,he,e1⟩:=bT hlt;have hih:=ih _ hm;obtain⟨fb,hfb⟩:∃fb,fb=bQ (.mk a b c d):=⟨_,rfl⟩
             rw[←hfb] at hih;refine Rr ?_;refine aD e1 ?_;refine Rr ?_;refine hih.go ?_;cases fb with
             | false=>
               refine Rr ?_;refine aA nn ⟨?_,rfl,rfl⟩;rw[bQ,jN hm hfb.symm,XS]
             | true=>
               refine Rr ?_;refine .mk (k+1) [(0,0)] ⟨om, ?_⟩ (aG _ rfl ⟨aL 0 dE,trivial⟩ ⟨aJ,⟨_,rfl,.w64 om ⟨om,om⟩⟩,trivial⟩) om;rw[oP hlt,hall,he,←hfb];rfl
           · have hk':k=ks.length:=by have:=IJ h;omega
             refine Rr ?_;refine aA nn ⟨?_,rfl,rfl⟩;rw[hk',Vr] at hall;rw[bQ,hf1,hall];rfl)
    · have e0:(vk == 0)=false:=by simp;omega
      have e1:(vk == 1)=false:=by simp;omega
      have e2:(vk == 2)=false:=by simp;omega
      have e3:(vk == 3)=false:=by simp;omega
      have hf1:cX vk vn vs ks.length=false:=by
        unfold cX;rw[VY om,VY om,VY om,VY om]
      have hfin:AV.bool false=AV.bool (bQ (.mk vk vn vs ks)):=by rw[bQ,hf1];rfl
      refine Rr ?_;repeat((first|rw[e0]|rw[e1]|rw[e2]|rw[e3]);refine Rr ?_)
      refine aI (fun h=>?_) (fun h=>?_)
      · rw[h]
        refine Rr ?_;exact aA nn ⟨hfin,rfl,rfl⟩
      · rw[h]
        refine Rr ?_;refine aI (fun h'=>?_) (fun h'=>?_)
        · refine Rr ?_
          exact aA nn ⟨hfin,rfl,rfl⟩
        · exfalso
          simp at h h';omega
  termination_by v=>SizeOf.sizeOf v
  decreasing_by simp;have:=Wo hm;omega
theorem Qm:∀v:a6,gH v->bB prog [] 97 [bS v] (.bool (oA v))
  | .mk vk vn vs ks,hv=>by
    simp only[gH] at hv;obtain⟨hv1,hv2,hv3,hv4,hv5⟩:=hv;have ih:∀a∈ks,bB prog [] 97 [bS a] (.bool (oA a)):=fun a hm=>Qm a (i8 hv5 a hm)
    clear hv5;refine aK bG func97 rfl ?_;refine Rr ?_;repeat' (refine aI (fun h=>?_) (fun h=>?_)<;>((try rw[h]);refine Rr ?_))
    all_goals first
      | (refine aA nn ⟨?_,rfl,rfl⟩
         clear ih;have hf1:yQ vk ks.length=true:=by
           simp[yQ,aB] at *;omega
         rw[oA,hf1];rfl)
      | (have hf1:yQ vk ks.length=false:=by
           clear ih;rw[Ws];simp[yQ,aB] at *;omega
         refine bC.at bG (fun k:Nat=>k<=ks.length/\qR (ks.take k)=false)
           (fun k=>⟨[(1,.ptr 0 0 0),(3,.int .i64 k)],[(0,.row 38 4 [bS (.mk vk vn vs ks)])],1,39⟩) (fun k=>ks.length-k) 0 [(0,0)] ⟨by simp,rfl⟩
           (aG _ rfl ⟨aL 0 dE,trivial⟩ ⟨aJ,aF,trivial⟩) ?_
         rintro k ⟨hk,hall⟩;refine Rr ?_;refine aI (fun h=>?_) (fun h=>?_)
         · have hlt:=G7 h
           obtain⟨a,b,c,d,hm,hg,he,e1⟩:=bT hlt;have hih:=ih _ hm;obtain⟨fb,hfb⟩:∃fb,fb=oA (.mk a b c d):=⟨_,rfl⟩
           rw[←hfb] at hih;refine Rr ?_;refine aD e1 ?_;refine Rr ?_;refine hih.go ?_;cases fb with
           | true=>
             refine Rr ?_;refine aA nn ⟨?_,rfl,rfl⟩;rw[oA,Fe hm hfb.symm,Bool.or_true]
           | false=>
             refine Rr ?_;refine .mk (k+1) [(0,0)] ⟨om, ?_⟩ (aG _ rfl ⟨aL 0 dE,trivial⟩ ⟨aJ,⟨_,rfl,.w64 om ⟨om,om⟩⟩,trivial⟩) om;rw[Jv hlt,hall,he,←hfb];rfl
         · have hk':k=ks.length:=by have:=IJ h;omega
           refine Rr ?_;refine aA nn ⟨?_,rfl,rfl⟩;rw[hk',Vr] at hall;rw[oA,hf1,hall];rfl)
  termination_by v=>SizeOf.sizeOf v
  decreasing_by simp;have:=Wo hm;omega
theorem Rc:∀v:a6,gH v->bF v<=1099511627776->bB prog [] 65 [bS v] (.int .i64 (fL v))
 | .mk vk vn vs ks,hv,hs=>by
  have h1:=Kv _ hv;have h2:=Qm _ hv;have h3:=Nc _ hs;have hval:fL (.mk vk vn vs ks)=if bQ (.mk vk vn vs ks)=false then 1 else if oA (.mk vk vn vs ks)=true∨1024<bF (.mk vk vn vs ks) then 4 else 0:=rfl
  generalize bQ (.mk vk vn vs ks)=fb at h1 hval;generalize oA (.mk vk vn vs ks)=wb at h2 hval;generalize bF (.mk vk vn vs ks)=sz at h3 hval;generalize fL (.mk vk vn vs ks)=res at hval;refine aK bG func65 rfl ?_;refine Rr ?_;refine h1.go ?_;cases fb with
  | false=>
   refine Rr ?_;refine aA nn ⟨?_,rfl,rfl⟩;rw[hval];rfl
  | true=>
   refine Rr ?_;refine h2.go ?_;cases wb with
   | true=>
    refine Rr ?_;refine aA nn ⟨?_,rfl,rfl⟩;rw[hval];simp
   | false=>
    refine Rr ?_;refine h3.go ?_;refine Rr ?_;refine aI (fun h=>?_) (fun h=>?_)
    ·refine Rr ?_;refine aA nn ⟨?_,rfl,rfl⟩;rw[hval,VY (by simp),Vb (by simp at h;omega)]
    ·refine Rr ?_;refine aA nn ⟨?_,rfl,rfl⟩;rw[hval,VY (by simp),VY (by simp at h;simp;omega)]
set_option maxRecDepth 100000
set_option maxHeartbeats 4000000
theorem ME(n:Int):i64 (IntKind.i64.wrap n):=by
 rw[IntKind.wrap_i64];exact⟨om,om⟩
theorem O5(n most:Int)(hn:i64 n)(hm:1<=most):bB prog [] 31 [.int .i64 n,.int .i64 most] (.int .i64 (rY n most)):=by
 have hz:decide (most≠0)=true:=by simp;omega
 unfold i64 at hn;refine aK bG func31 rfl ?_;refine Rr ?_;refine aI (fun h=>?_) (fun h=>?_)
 ·have h:n<0:=by simpa using h
  refine Rr ?_;refine aN (by rw[Vv om];rfl) ?_;refine Rr ?_;refine aA nn ⟨?_,rfl,rfl⟩;rw[rY,Vb h,w64 (x:=n+1) (y:=n+1) rfl ⟨om,om⟩,w64 (x:=0-(n+1)) (y:=-(n+1)) om ⟨om,om⟩]
 ·have h:¬n<0:=by simpa using h
  refine Rr ?_;refine aN (by rw[Vv om];rfl) ?_;refine Rr ?_;refine aA nn ⟨?_,rfl,rfl⟩;rw[rY,VY h]
theorem G9(l:List Int)(i most:Int)(hl:∀x∈l,i64 x)(hm:1<=most):bB prog [] 12 [.il 1 (aS l),.int .i64 i,.int .i64 most] (.int .i64 (mE l i most)):=by
 refine aK bG func12 rfl ?_;refine Rr ?_;refine aI (fun h=>?_) (fun h=>?_)
 ·rw[h];refine Rr ?_;refine aA nn ⟨?_,rfl,rfl⟩;rw[mE,Vb (.inl (by simpa using h))]
 ·have h0:0<=i:=by simpa using h
  rw[h];refine Rr ?_;refine aI (fun h=>?_) (fun h=>?_)
  ·refine Rr ?_;refine aA nn ⟨?_,rfl,rfl⟩;rw[aC] at h;rw[mE,Vb (.inr (by simpa using h))]
  ·rw[aC] at h;have h1:i<l.length:=by simpa using h
   obtain⟨q,rfl⟩:=Vk h0;have hq:q<l.length:=om;refine Rr ?_;refine aD (a:=.int .i64 l[q]) (by rw[Va,a8,VV hq];rfl) ?_;refine Rr ?_;refine(O5 l[q] most (hl _ (Vw hq)) hm).go ?_;refine Rr ?_;refine aA nn ⟨?_,rfl,rfl⟩;rw[mE,VY om,Va,VW,VV hq];rfl
theorem Mu(l:List Int)(i j:Int)(hl:∀x∈l,i64 x)(hi:1<=i)(hi':i<=1000)(hj:0<=j)(hj':j<=1000):bB prog [] 14 [.il 1 (aS l),.int .i64 i,.int .i64 j] (.int .i64 (kidI l i j)):=by
 have hp:=G9 l (3*i+j+2) 1000000 hl om;have hb:=lE (l:=l) (i:=3*i+j+2) (most:=1000000) om;have hk:kidI l i j=if (mE l (3*i+j+2) 1000000).tmod 3=0 then((mE l (3*i+j+2) 1000000).tdiv 3).tmod i else max 0 (i-1-((mE l (3*i+j+2) 1000000).tdiv 3).tmod 3):=rfl
 generalize mE l (3*i+j+2) 1000000=p at hp hb hk;rw[hk];have hd:0<=p.tdiv 3/\p.tdiv 3<=1000000:=by
  rw[XT hb.1];omega
 have hd3:0<=(p.tdiv 3).tmod 3/\(p.tdiv 3).tmod 3<3:=⟨W5 _ hd.1,Wp _ om⟩
 refine aK bG func14 rfl ?_;refine Rr ?_;rw[w64 (x:=3*i) (y:=3*i) rfl ⟨om,om⟩,w64 (x:=3*i+j) (y:=3*i+j) rfl ⟨om,om⟩,w64 (x:=3*i+j+2) (y:=3*i+j+2) rfl ⟨om,om⟩];refine hp.go ?_;refine Rr ?_;refine aI (fun h=>?_) (fun h=>?_)
 ·have h:p.tmod 3=0:=by simpa using h
  refine Rr ?_;refine aN (by rw[Vv om];rfl) ?_;refine Rr ?_;refine aA nn ⟨?_,rfl,rfl⟩;rw[Vb h,w64 (x:=p.tdiv 3) (y:=p.tdiv 3) rfl ⟨om,om⟩]
 ·have h:¬p.tmod 3=0:=by simpa using h
  refine Rr ?_;refine aA nn ⟨?_,rfl,rfl⟩;rw[VY h,w64 (x:=p.tdiv 3) (y:=p.tdiv 3) rfl ⟨om,om⟩,w64 (x:=i-1) (y:=i-1) rfl ⟨om,om⟩,w64 (x:=i-1-(p.tdiv 3).tmod 3) (y:=i-1-(p.tdiv 3).tmod 3) rfl ⟨om,om⟩];congr 1;simp;omega
theorem Q4(k:Int)(h0:0<=k)(h1:k<=1000000):bB prog [] 13 [.int .i64 k] (bS (wM k)):=by
 have hd:0<=k.tdiv 4/\k.tdiv 4<=1000000:=by
  rw[XT h0];omega
 have hm:0<=k.tmod 4/\k.tmod 4<4:=⟨W5 _ h0,Wp _ om⟩
 have h9:0<=(k.tdiv 4).tmod 9/\(k.tdiv 4).tmod 9<9:=⟨W5 _ hd.1,Wp _ om⟩
 have h3:0<=(k.tdiv 4).tmod 3/\(k.tdiv 4).tmod 3<3:=⟨W5 _ hd.1,Wp _ om⟩
 have hw:IntKind.i64.wrap (k.tdiv 4)=k.tdiv 4:=w64 rfl ⟨om,om⟩;have hv:wM k=if k.tmod 4=0 then .mk 0 ((k.tdiv 4).tmod 9-4) [] []
  else if k.tmod 4=1 then .mk 1 ((k.tdiv 4).tmod 2) [] []
  else if k.tmod 4=2 then .mk 3 0 (([[76,101,97,102],[82,101,100],[88]]:List (List UInt8)).getD ((k.tdiv 4).tmod 3).toNat []) []
  else .mk 2 0 [] [.mk 0 ((k.tdiv 4).tmod 3) [] []]:=rfl
 generalize wM k=v at hv;have hw9:IntKind.i64.wrap ((k.tdiv 4).tmod 9-4)=(k.tdiv 4).tmod 9-4:=w64 rfl ⟨om,om⟩;refine aK bG func13 rfl ?_;rcases(show k.tmod 4=0∨k.tmod 4=1∨k.tmod 4=2∨k.tmod 4=3 by omega) with e|e|e|e
 ·rw[Vb e] at hv;refine Rr ?_;rw[e];refine Rr ?_;rw[hw,hw9];exact dK (.agg' (.s (.s (.s (.cons (.nil 4) .nil))))) ⟨by rw[hv];rfl,rfl,rfl⟩
 ·rw[VY om,Vb e] at hv;refine Rr ?_;rw[e];refine Rr ?_;rw[hw];exact dK (.agg' (.s (.s (.s (.cons (.nil 4) .nil))))) ⟨by rw[hv];rfl,rfl,rfl⟩
 ·rw[VY om,VY om,Vb e] at hv;refine Rr ?_;rw[e];refine Rr ?_;rw[hw];rcases(show (k.tdiv 4).tmod 3=0∨(k.tdiv 4).tmod 3=1∨(k.tdiv 4).tmod 3=2 by omega) with e3|e3|e3
  all_goals
   rw[e3] at hv ⊢;refine Rr ?_;exact dK (.agg' (.s (.s (.s (.cons (.nil 4) .nil))))) ⟨by rw[hv];rfl,rfl,rfl⟩
 ·rw[VY om,VY om,VY om] at hv;refine Rr ?_;rw[e];refine Rr ?_;rw[hw];exact dK (.agg' (.s (.s (.s (.cons (.fzR rfl rfl (.cons (uV _ _ _) .nil) rfl) .nil))))) ⟨by rw[hv];rfl,rfl,rfl⟩
end Go.Proofs.YtioogodkiglceaaGreatDoor
