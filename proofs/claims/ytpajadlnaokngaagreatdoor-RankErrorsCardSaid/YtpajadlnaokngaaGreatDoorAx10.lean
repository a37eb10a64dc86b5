/- A part of the proof. -/
import Derived.Test.YtpajadlnaokngaaGreatDoorAx9
import Derived.Test.YtpajadlnaokngaaGreatDoorProg
import Derived.KernelRfl
set_option linter.unusedVariables false
set_option linter.unusedSimpArgs false
set_option linter.unusedSectionVars false
namespace Go.Proofs.YtpajadlnaokngaaGreatDoor
open Go Go.Ax Go.Proofs Tryz
set_option maxRecDepth 100000
set_option maxHeartbeats 4000000
theorem H1:∀v:aT,aU v<=1099511627776->aZ prog [] 135 [cD v] (.int .i64 (aU v))
 | .mk vk vn vs ks,hs=>by
  have hs':bR ks+1<=1099511627776:=by simp only[aU] at hs;omega
  have ih:∀a∈ks,aZ prog [] 135 [cD a] (.int .i64 (aU a)):=fun a hm=>H1 a (by have:=Fj hm;omega)
  have hl:=tR ks;refine aN bI func135 rfl ?_;refine Rr ?_;refine a6.at bI (fun k:Nat=>k<=ks.length)
   (fun k=>⟨[(1,.ptr 0 0 0),(3,.int .i64 (1+bR (ks.take k):Nat)),(4,.int .i64 k)],[(0,.row 57 4 [cD (.mk vk vn vs ks)])],1,21⟩)
   (fun k=>ks.length-k) 0 [(0,0)] (by simp)
   (aH _ rfl ⟨aI 0 cG,trivial⟩ ⟨aL,aG,aG,trivial⟩) ?_
  intro k hk;refine Rr ?_;refine aE (fun h=>?_) (fun h=>?_)
  ·have hlt:=Cj h;obtain⟨a,b,c,d,hm,hg,he,e1⟩:=bK hlt;have hsz:=rH hlt;have hle:=lS ks (k+1);rw[he] at hsz;refine Rr ?_;refine aD e1 ?_;refine Rr ?_;refine(ih _ hm).go ?_;refine Rr ?_;exact .mk (k+1) [(0,0)] om (aH _ rfl ⟨aI 0 cG,trivial⟩ ⟨aL,⟨_,rfl,.w64 om ⟨om,om⟩⟩,⟨_,rfl,.w64 om ⟨om,om⟩⟩,trivial⟩) om
  ·have hk':k=ks.length:=by have:=Ct h;omega
   refine Rr ?_;refine aA nn ⟨?_,rfl,rfl⟩;rw[hk',M2,aU]
 termination_by v=>SizeOf.sizeOf v
 decreasing_by simp;have:=Nm hm;omega
theorem I1(c:Int):aZ prog [] 279 [.int .u8 c] (.bool (pY c)):=by
 refine aN bI func279 rfl ?_;refine Rr ?_;repeat' (refine aE (fun h=>?_) (fun h=>?_)<;>((try rw[h]);refine Rr ?_))
 all_goals
  refine aA nn ⟨?_,rfl,rfl⟩;congr 1;rw[NE];simp[pY] at *;try omega
theorem Hn(s:List UInt8)(hs:s.length<=4294967296):aZ prog [] 266 [.str s] (.bool (dI s)):=by
  refine aN bI func266 rfl ?_;refine Rr ?_;refine aE (fun h=>?_) (fun h=>?_)
  · rw[h]
    refine Rr ?_;refine aA nn ⟨?_,rfl,rfl⟩;rw[oC (by simp at h;omega)]
  have h1:1<=s.length:=by simp at h;omega
  rw[h];refine Rr ?_;refine aE (fun h=>?_) (fun h=>?_)
  · rw[h]
    refine Rr ?_;refine aA nn ⟨?_,rfl,rfl⟩;rw[mU (by simp at h;omega)]
  have h2:s.length<=16:=by simp at h;omega
  rw[h];obtain⟨a,ha⟩:∃a,s[0]? = some a:=⟨s[0],by simp⟩
  refine Rr ?_;refine aD ha ?_;refine Rr ?_;refine aE (fun h=>?_) (fun h=>?_)
  · rw[h]
    refine Rr ?_;refine aA nn ⟨?_,rfl,rfl⟩;rw[gN ha (by simp[jR] at *;omega)]
  have h3:65<=(a.toNat:Int):=by simpa using h
  rw[h];refine Rr ?_;refine aD ha ?_;refine Rr ?_;refine aE (fun h=>?_) (fun h=>?_)
  · refine Rr ?_
    refine aA nn ⟨?_,rfl,rfl⟩;rw[gN ha (by simp[jR] at *;omega)]
  have h4:(a.toNat:Int)<=90:=by simpa using h
  refine Rr ?_;refine a6.at bI (fun i:Nat=>i<=s.length/\∀j c,j<i->s[j]? = some c->pY c.toNat=true)
    (fun i=>⟨[(0,.str s),(3,.int .i64 i)],[],0,64⟩) (fun i=>s.length-i) 0 [] ⟨by simp,by simp⟩
    (bV ⟨aG,aG,trivial⟩) ?_
  rintro i ⟨hi,hall⟩;refine Rr ?_;refine aE (fun h=>?_) (fun h=>?_)
  · have hlt:i<s.length:=by simpa using h
    obtain⟨c,hc⟩:∃c,s[i]? = some c:=⟨s[i],by simp[hlt]⟩
    have hc':s[(i:Int).toNat]? = some c:=by rw[Mo];exact hc
    refine Rr ?_;refine aD hc' ?_;refine Rr ?_;repeat' (refine aE (fun h=>?_) (fun h=>?_)<;>((try rw[h]);refine Rr ?_))
    all_goals first
      | (refine aA nn ⟨?_,rfl,rfl⟩
         rw[q9 hc (by rw[Nq];simp[pY] at *;omega)])
      | (refine .mk (i+1) [] ⟨om,fun j c2 hj hc2=>?_⟩ (bV ⟨aG,⟨_,rfl,.w64 om ⟨om,om⟩⟩,trivial⟩) om
         rcases Mq j i with hj'|hj'
         · exact hall j c2 hj' hc2
         · have hji:j=i:=om
           rw[hji,hc] at hc2;cases hc2;simp[pY] at *;omega)
  · refine Rr ?_
    refine aA nn ⟨?_,rfl,rfl⟩;have hk:i=s.length:=by simp at h;omega
    rw[qS ha h2 (by simp[jR];omega) fun j c hc=>hall j c (by rw[hk];exact(Mi.1 hc).1) hc]
theorem Hm(s:List UInt8)(hs:s.length<=4294967296):aZ prog [] 229 [.str s] (.bool (dI s)):=by
 refine aN bI func229 rfl ?_;refine Rr ?_;refine aE (fun h=>?_) (fun h=>?_)
 ·rw[h];refine Rr ?_;refine aA nn ⟨?_,rfl,rfl⟩;rw[oC (by simp at h;rw[h];simp)]
 have h1:1<=s.length:=by
  rcases M5 s.length with h'|h'
  ·rw[Mu h'] at h;simp at h
  ·exact h'
 rw[h];refine Rr ?_;refine aE (fun h=>?_) (fun h=>?_)
 ·rw[h];refine Rr ?_;refine aA nn ⟨?_,rfl,rfl⟩;rw[mU (by simp at h;omega)]
 have h2:s.length<=16:=by simp at h;omega
 rw[h];obtain⟨a,ha⟩:∃a,s[0]? = some a:=⟨s[0],by simp⟩
 refine Rr ?_;refine aD ha ?_;refine Rr ?_;refine aE (fun h=>?_) (fun h=>?_)
 ·rw[h];refine Rr ?_;refine aA nn ⟨?_,rfl,rfl⟩;rw[gN ha (by simp[jR] at *;omega)]
 have h3:65<=(a.toNat:Int):=by simpa using h
 rw[h];refine Rr ?_;refine aD ha ?_;refine Rr ?_;refine aE (fun h=>?_) (fun h=>?_)
 ·refine Rr ?_;refine aA nn ⟨?_,rfl,rfl⟩;rw[gN ha (by simp[jR] at *;omega)]
 have h4:(a.toNat:Int)<=90:=by simpa using h
 have hua:jR a.toNat=true:=by simp[jR];omega
 refine Rr ?_;refine a6.at bI (fun i:Nat=>1<=i/\i<=s.length/\∀j c,j<i->s[j]? = some c->pY c.toNat=true)
  (fun i=>⟨[(0,.str s),(3,.int .i64 i)],[],0,32⟩) (fun i=>s.length-i) 1 [] ⟨by simp,h1,fun j c hj hc=>by rw[show j=0 by omega,ha] at hc;cases hc;exact Cn hua⟩
  (bV ⟨aG,aG,trivial⟩) ?_
 rintro i ⟨h0,hi,hall⟩;refine Rr ?_;refine aE (fun h=>?_) (fun h=>?_)
 ·have hlt:i<s.length:=by simpa using h
  obtain⟨c,hc⟩:∃c,s[i]? = some c:=⟨s[i],by simp[hlt]⟩
  have hc':s[(i:Int).toNat]? = some c:=by rw[Mo];exact hc
  refine Rr ?_;refine aD hc' ?_;refine Rr ?_;refine(I1 c.toNat).go ?_;refine Rr ?_;cases hb:pY c.toNat with
  | false=>
   refine Rr ?_;refine aA nn ⟨?_,rfl,rfl⟩;rw[q9 hc hb]
  | true=>
   refine Rr ?_;refine .mk (i+1) [] ⟨om,om,fun j c2 hj hc2=>?_⟩ (bV ⟨aG,⟨_,rfl,.w64 om ⟨om,om⟩⟩,trivial⟩) om;rcases Mq j i with hj'|hj'
   ·exact hall j c2 hj' hc2
   ·have hji:j=i:=om;rw[hji,hc] at hc2;cases hc2;exact hb
 ·refine Rr ?_;refine aA nn ⟨?_,rfl,rfl⟩;have hk:i=s.length:=by simp at h;omega
  rw[qS ha h2 hua fun j c hc=>hall j c (by rw[hk];exact(Mi.1 hc).1) hc]
set_option maxHeartbeats 4000000
theorem JJ(vk vn:Int)(vs:List UInt8)(ks:List aT)(hs:vs.length<=4294967296):aZ prog [] 164 [cD (.mk vk vn vs ks)] (.bool (bY vk vn vs ks.length)):=by
 refine aN bI func164 rfl ?_;refine Rr ?_;repeat' (first|(refine aE (fun h=>?_) (fun h=>?_)<;>((try rw[h]);refine Rr ?_))|(refine(Hm vs hs).go ?_;refine Rr ?_))
 all_goals
  refine aA nn ⟨?_,rfl,rfl⟩;congr 1;rw[NE];simp_all[bY,aB,Nb,List.isEmpty_iff]
theorem LS(vk vn:Int)(vs:List UInt8)(ks:List aT):aZ prog [] 165 [cD (.mk vk vn vs ks)] (.bool (qB vk ks.length)):=by
 refine aN bI func165 rfl ?_;refine Rr ?_;repeat' (refine aE (fun h=>?_) (fun h=>?_)<;>((try rw[h]);refine Rr ?_))
 all_goals
  refine aA nn ⟨?_,rfl,rfl⟩;congr 1;rw[NE];simp[qB,aB] at *;try omega
theorem EX:∀v:aT,gC v->aZ prog [] 211 [cD v] (.bool (bJ v))
  | .mk vk vn vs ks,hv=>by
    simp only[gC] at hv;obtain⟨hv1,hv2,hv3,hv4,hv5⟩:=hv;have ih:∀a∈ks,aZ prog [] 211 [cD a] (.bool (bJ a)):=fun a hm=>EX a (l6 hv5 a hm)
    clear hv5;refine aN bI func211 rfl ?_;refine Rr ?_;refine(Hn vs hv3).go ?_;obtain⟨cb,hcb⟩:∃cb,cb=dI vs:=⟨_,rfl⟩
    rw[←hcb];rcases(show vk=0∨vk=1∨vk=2∨vk=3∨(vk<0∨3<vk) by omega) with rfl|rfl|rfl|rfl|hk
    · refine Rr ?_
      repeat' (refine aE (fun h=>?_) (fun h=>?_)<;>((try rw[h]);refine Rr ?_))
      all_goals first
        | (refine aA nn ⟨?_,rfl,rfl⟩
           clear ih;have hf1:bY 0 vn vs ks.length=false:=by
             rw[Nq];simp_all[bY,aB,NX];try omega
           rw[bJ,hf1];rfl)
        | (have hf1:bY 0 vn vs ks.length=true:=by
             clear ih;simp_all[bY,aB,NX];try omega
           refine a6.at bI (fun k:Nat=>k<=ks.length/\cN (ks.take k)=true)
             (fun k=>⟨[(1,.ptr 0 0 0),(4,.int .i64 k)],[(0,.row 57 4 [cD (.mk 0 vn vs ks)])],1,95⟩) (fun k=>ks.length-k) 0 [(0,0)] ⟨by simp,rfl⟩
             (aH _ rfl ⟨aI 0 cG,trivial⟩ ⟨aL,aG,trivial⟩) ?_
           rintro k ⟨hk,hall⟩;refine Rr ?_;refine aE (fun h=>?_) (fun h=>?_)
           · have hlt:=Cj h
             obtain⟨a,b,c,d,hm,hg,he,e1⟩:=bK hlt;have hih:=ih _ hm;obtain⟨fb,hfb⟩:∃fb,fb=bJ (.mk a b c d):=⟨_,rfl⟩
             rw[←hfb] at hih;refine Rr ?_;refine aD e1 ?_;refine Rr ?_;refine hih.go ?_;cases fb with
             | false=>
               refine Rr ?_;refine aA nn ⟨?_,rfl,rfl⟩;rw[bJ,jE hm hfb.symm,OI]
             | true=>
               refine Rr ?_;refine .mk (k+1) [(0,0)] ⟨om, ?_⟩ (aH _ rfl ⟨aI 0 cG,trivial⟩ ⟨aL,⟨_,rfl,.w64 om ⟨om,om⟩⟩,trivial⟩) om;rw[jV hlt,hall,he,←hfb];rfl
           · have hk':k=ks.length:=by have:=Ct h;omega
             refine Rr ?_;refine aA nn ⟨?_,rfl,rfl⟩;rw[hk',M2] at hall;rw[bJ,hf1,hall];rfl)
    · refine Rr ?_
      repeat' (refine aE (fun h=>?_) (fun h=>?_)<;>((try rw[h]);refine Rr ?_))
      all_goals first
        | (refine aA nn ⟨?_,rfl,rfl⟩
           clear ih;have hf1:bY 1 vn vs ks.length=false:=by
             rw[Nq];simp_all[bY,aB,NX];try omega
           rw[bJ,hf1];rfl)
        | (have hf1:bY 1 vn vs ks.length=true:=by
             clear ih;simp_all[bY,aB,NX];try omega
           refine a6.at bI (fun k:Nat=>k<=ks.length/\cN (ks.take k)=true)
             (fun k=>⟨[(1,.ptr 0 0 0),(4,.int .i64 k)],[(0,.row 57 4 [cD (.mk 1 vn vs ks)])],1,95⟩) (fun k=>ks.length-k) 0 [(0,0)] ⟨by simp,rfl⟩
             (aH _ rfl ⟨aI 0 cG,trivial⟩ ⟨aL,aG,trivial⟩) ?_
           rintro k ⟨hk,hall⟩;refine Rr ?_;refine aE (fun h=>?_) (fun h=>?_)
           · have hlt:=Cj h
             obtain⟨a,b,c,d,hm,hg,he,e1⟩:=bK hlt;have hih:=ih _ hm;obtain⟨fb,hfb⟩:∃fb,fb=bJ (.mk a b c d):=⟨_,rfl⟩
             rw[←hfb] at hih;refine Rr ?_;refine aD e1 ?_;refine Rr ?_;refine hih.go ?_;cases fb with
             | false=>
               refine Rr ?_;refine aA nn ⟨?_,rfl,rfl⟩;rw[bJ,jE hm hfb.symm,OI]
             | true=>
               refine Rr ?_;refine .mk (k+1) [(0,0)] ⟨om, ?_⟩ (aH _ rfl ⟨aI 0 cG,trivial⟩ ⟨aL,⟨_,rfl,.w64 om ⟨om,om⟩⟩,trivial⟩) om;rw[jV hlt,hall,he,←hfb];rfl
           · have hk':k=ks.length:=by have:=Ct h;omega
             refine Rr ?_;refine aA nn ⟨?_,rfl,rfl⟩;rw[hk',M2] at hall;rw[bJ,hf1,hall];rfl)
    · refine Rr ?_
      repeat' (refine aE (fun h=>?_) (fun h=>?_)<;>((try rw[h]);refine Rr ?_))
      all_goals first
        | (refine aA nn ⟨?_,rfl,rfl⟩
           clear ih;have hf1:bY 2 vn vs ks.length=false:=by
             rw[Nq];simp_all[bY];try omega
           rw[bJ,hf1];rfl)
        | (have hf1:bY 2 vn vs ks.length=true:=by
             clear ih;simp_all[bY];try omega
           refine a6.at bI (fun k:Nat=>k<=ks.length/\cN (ks.take k)=true)
             (fun k=>⟨[(1,.ptr 0 0 0),(4,.int .i64 k)],[(0,.row 57 4 [cD (.mk 2 vn vs ks)])],1,95⟩) (fun k=>ks.length-k) 0 [(0,0)] ⟨by simp,rfl⟩
             (aH _ rfl ⟨aI 0 cG,trivial⟩ ⟨aL,aG,trivial⟩) ?_
           rintro k ⟨hk,hall⟩;refine Rr ?_;refine aE (fun h=>?_) (fun h=>?_)
           · have hlt:=Cj h
             obtain⟨a,b,c,d,hm,hg,he,e1⟩:=bK hlt;have hih:=ih _ hm;obtain⟨fb,hfb⟩:∃fb,fb=bJ (.mk a b c d):=⟨_,rfl⟩
             rw[←hfb] at hih;refine Rr ?_;refine aD e1 ?_;refine Rr ?_;refine hih.go ?_;cases fb with
             | false=>
               refine Rr ?_;refine aA nn ⟨?_,rfl,rfl⟩;rw[bJ,jE hm hfb.symm,OI]
             | true=>
               refine Rr ?_;refine .mk (k+1) [(0,0)] ⟨om, ?_⟩ (aH _ rfl ⟨aI 0 cG,trivial⟩ ⟨aL,⟨_,rfl,.w64 om ⟨om,om⟩⟩,trivial⟩) om;rw[jV hlt,hall,he,←hfb];rfl
           · have hk':k=ks.length:=by have:=Ct h;omega
             refine Rr ?_;refine aA nn ⟨?_,rfl,rfl⟩;rw[hk',M2] at hall;rw[bJ,hf1,hall];rfl)
    · refine Rr ?_
      repeat' (refine aE (fun h=>?_) (fun h=>?_)<;>((try rw[h]);refine Rr ?_))
      all_goals first
        | (refine aA nn ⟨?_,rfl,rfl⟩
           clear ih;have hf1:bY 3 vn vs ks.length=false:=by
             rw[Nq];simp_all[bY];try omega
           rw[bJ,hf1];rfl)
        | (have hf1:bY 3 vn vs ks.length=true:=by
             clear ih;simp_all[bY];try omega
           refine a6.at bI (fun k:Nat=>k<=ks.length/\cN (ks.take k)=true)
             (fun k=>⟨[(1,.ptr 0 0 0),(4,.int .i64 k)],[(0,.row 57 4 [cD (.mk 3 vn vs ks)])],1,95⟩) (fun k=>ks.length-k) 0 [(0,0)] ⟨by simp,rfl⟩
             (aH _ rfl ⟨aI 0 cG,trivial⟩ ⟨aL,aG,trivial⟩) ?_
           rintro k ⟨hk,hall⟩;refine Rr ?_;refine aE (fun h=>?_) (fun h=>?_)
           · have hlt:=Cj h
             obtain⟨a,b,c,d,hm,hg,he,e1⟩:=bK hlt;have hih:=ih _ hm;obtain⟨fb,hfb⟩:∃fb,fb=bJ (.mk a b c d):=⟨_,rfl⟩
             rw[←hfb] at hih;refine Rr ?_;refine aD e1 ?_;refine Rr ?_;refine hih.go ?_;cases fb with
             | false=>
               refine Rr ?_;refine aA nn ⟨?_,rfl,rfl⟩;rw[bJ,jE hm hfb.symm,OI]
             | true=>
               refine Rr ?_;refine .mk (k+1) [(0,0)] ⟨om, ?_⟩ (aH _ rfl ⟨aI 0 cG,trivial⟩ ⟨aL,⟨_,rfl,.w64 om ⟨om,om⟩⟩,trivial⟩) om;rw[jV hlt,hall,he,←hfb];rfl
           · have hk':k=ks.length:=by have:=Ct h;omega
             refine Rr ?_;refine aA nn ⟨?_,rfl,rfl⟩;rw[hk',M2] at hall;rw[bJ,hf1,hall];rfl)
    · have e0:(vk == 0)=false:=by simp;omega
      have e1:(vk == 1)=false:=by simp;omega
      have e2:(vk == 2)=false:=by simp;omega
      have e3:(vk == 3)=false:=by simp;omega
      have hf1:bY vk vn vs ks.length=false:=by
        unfold bY;rw[Mm om,Mm om,Mm om,Mm om]
      have hfin:AV.bool false=AV.bool (bJ (.mk vk vn vs ks)):=by rw[bJ,hf1];rfl
      refine Rr ?_;repeat((first|rw[e0]|rw[e1]|rw[e2]|rw[e3]);refine Rr ?_)
      refine aE (fun h=>?_) (fun h=>?_)
      · rw[h]
        refine Rr ?_;exact aA nn ⟨hfin,rfl,rfl⟩
      · rw[h]
        refine Rr ?_;refine aE (fun h'=>?_) (fun h'=>?_)
        · refine Rr ?_
          exact aA nn ⟨hfin,rfl,rfl⟩
        · exfalso
          simp at h h';omega
  termination_by v=>SizeOf.sizeOf v
  decreasing_by simp;have:=Nm hm;omega
theorem Ji:∀v:aT,gC v->aZ prog [] 212 [cD v] (.bool (jS v))
  | .mk vk vn vs ks,hv=>by
    simp only[gC] at hv;obtain⟨hv1,hv2,hv3,hv4,hv5⟩:=hv;have ih:∀a∈ks,aZ prog [] 212 [cD a] (.bool (jS a)):=fun a hm=>Ji a (l6 hv5 a hm)
    clear hv5;refine aN bI func212 rfl ?_;refine Rr ?_;repeat' (refine aE (fun h=>?_) (fun h=>?_)<;>((try rw[h]);refine Rr ?_))
    all_goals first
      | (refine aA nn ⟨?_,rfl,rfl⟩
         clear ih;have hf1:sG vk ks.length=true:=by
           simp[sG,aB] at *;omega
         rw[jS,hf1];rfl)
      | (have hf1:sG vk ks.length=false:=by
           clear ih;rw[Nq];simp[sG,aB] at *;omega
         refine a6.at bI (fun k:Nat=>k<=ks.length/\lZ (ks.take k)=false)
           (fun k=>⟨[(1,.ptr 0 0 0),(3,.int .i64 k)],[(0,.row 57 4 [cD (.mk vk vn vs ks)])],1,39⟩) (fun k=>ks.length-k) 0 [(0,0)] ⟨by simp,rfl⟩
           (aH _ rfl ⟨aI 0 cG,trivial⟩ ⟨aL,aG,trivial⟩) ?_
         rintro k ⟨hk,hall⟩;refine Rr ?_;refine aE (fun h=>?_) (fun h=>?_)
         · have hlt:=Cj h
           obtain⟨a,b,c,d,hm,hg,he,e1⟩:=bK hlt;have hih:=ih _ hm;obtain⟨fb,hfb⟩:∃fb,fb=jS (.mk a b c d):=⟨_,rfl⟩
           rw[←hfb] at hih;refine Rr ?_;refine aD e1 ?_;refine Rr ?_;refine hih.go ?_;cases fb with
           | true=>
             refine Rr ?_;refine aA nn ⟨?_,rfl,rfl⟩;rw[jS,zB hm hfb.symm,Bool.or_true]
           | false=>
             refine Rr ?_;refine .mk (k+1) [(0,0)] ⟨om, ?_⟩ (aH _ rfl ⟨aI 0 cG,trivial⟩ ⟨aL,⟨_,rfl,.w64 om ⟨om,om⟩⟩,trivial⟩) om;rw[DA hlt,hall,he,←hfb];rfl
         · have hk':k=ks.length:=by have:=Ct h;omega
           refine Rr ?_;refine aA nn ⟨?_,rfl,rfl⟩;rw[hk',M2] at hall;rw[jS,hf1,hall];rfl)
  termination_by v=>SizeOf.sizeOf v
  decreasing_by simp;have:=Nm hm;omega
theorem KS:∀v:aT,gC v->aU v<=1099511627776->aZ prog [] 133 [cD v] (.int .i64 (Go.Ax.d9 v))
 | .mk vk vn vs ks,hv,hs=>by
  have h1:=EX _ hv;have h2:=Ji _ hv;have h3:=H1 _ hs;have hval:Go.Ax.d9 (.mk vk vn vs ks)=if bJ (.mk vk vn vs ks)=false then 1 else if jS (.mk vk vn vs ks)=true∨1024<aU (.mk vk vn vs ks) then 4 else 0:=rfl
  generalize bJ (.mk vk vn vs ks)=fb at h1 hval;generalize jS (.mk vk vn vs ks)=wb at h2 hval;generalize aU (.mk vk vn vs ks)=sz at h3 hval;generalize Go.Ax.d9 (.mk vk vn vs ks)=res at hval;refine aN bI func133 rfl ?_;refine Rr ?_;refine h1.go ?_;cases fb with
  | false=>
   refine Rr ?_;refine aA nn ⟨?_,rfl,rfl⟩;rw[hval];rfl
  | true=>
   refine Rr ?_;refine h2.go ?_;cases wb with
   | true=>
    refine Rr ?_;refine aA nn ⟨?_,rfl,rfl⟩;rw[hval];simp
   | false=>
    refine Rr ?_;refine h3.go ?_;refine Rr ?_;refine aE (fun h=>?_) (fun h=>?_)
    ·refine Rr ?_;refine aA nn ⟨?_,rfl,rfl⟩;rw[hval,Mm (by simp),Mr (by simp at h;omega)]
    ·refine Rr ?_;refine aA nn ⟨?_,rfl,rfl⟩;rw[hval,Mm (by simp),Mm (by simp at h;simp;omega)]
set_option maxHeartbeats 4000000
theorem GF(n:Int):i64 (IntKind.i64.wrap n):=by
 rw[IntKind.wrap_i64];exact⟨om,om⟩
theorem sK(n most:Int)(hn:i64 n)(hm:1<=most):aZ prog [] 26 [.int .i64 n,.int .i64 most] (.int .i64 (iM n most)):=by
 have hz:decide (most≠0)=true:=by simp;omega
 unfold i64 at hn;refine aN bI func26 rfl ?_;refine Rr ?_;refine aE (fun h=>?_) (fun h=>?_)
 ·have h:n<0:=by simpa using h
  refine Rr ?_;refine aM (by rw[Nz om];rfl) ?_;refine Rr ?_;refine aA nn ⟨?_,rfl,rfl⟩;rw[iM,Mr h,w64 (x:=n+1) (y:=n+1) rfl ⟨om,om⟩,w64 (x:=0-(n+1)) (y:=-(n+1)) om ⟨om,om⟩]
 ·have h:¬n<0:=by simpa using h
  refine Rr ?_;refine aM (by rw[Nz om];rfl) ?_;refine Rr ?_;refine aA nn ⟨?_,rfl,rfl⟩;rw[iM,Mm h]
theorem CB(l:List Int)(i most:Int)(hl:∀x∈l,i64 x)(hm:1<=most):aZ prog [] 21 [.il 1 (aX l),.int .i64 i,.int .i64 most] (.int .i64 (iL l i most)):=by
 refine aN bI func21 rfl ?_;refine Rr ?_;refine aE (fun h=>?_) (fun h=>?_)
 ·rw[h];refine Rr ?_;refine aA nn ⟨?_,rfl,rfl⟩;rw[iL,Mr (.inl (by simpa using h))]
 ·have h0:0<=i:=by simpa using h
  rw[h];refine Rr ?_;refine aE (fun h=>?_) (fun h=>?_)
  ·refine Rr ?_;refine aA nn ⟨?_,rfl,rfl⟩;rw[aC] at h;rw[iL,Mr (.inr (by simpa using h))]
  ·rw[aC] at h;have h1:i<l.length:=by simpa using h
   obtain⟨q,rfl⟩:=Mx h0;have hq:q<l.length:=om;refine Rr ?_;refine aD (a:=.int .i64 l[q]) (by rw[Mo,bL,Mf hq];rfl) ?_;refine Rr ?_;refine(sK l[q] most (hl _ (NL hq)) hm).go ?_;refine Rr ?_;refine aA nn ⟨?_,rfl,rfl⟩;rw[iL,Mm om,Mo,Mk,Mf hq];rfl
theorem HN(l:List Int)(i j:Int)(hl:∀x∈l,i64 x)(hi:1<=i)(hi':i<=1000)(hj:0<=j)(hj':j<=1000):aZ prog [] 23 [.il 1 (aX l),.int .i64 i,.int .i64 j] (.int .i64 (lO l i j)):=by
 have hp:=CB l (3*i+j+2) 1000000 hl om;have hb:=gR (l:=l) (i:=3*i+j+2) (most:=1000000) om;have hk:lO l i j=if (iL l (3*i+j+2) 1000000).tmod 3=0 then((iL l (3*i+j+2) 1000000).tdiv 3).tmod i else max 0 (i-1-((iL l (3*i+j+2) 1000000).tdiv 3).tmod 3):=rfl
 generalize iL l (3*i+j+2) 1000000=p at hp hb hk;rw[hk];have hd:0<=p.tdiv 3/\p.tdiv 3<=1000000:=by
  rw[OJ hb.1];omega
 have hd3:0<=(p.tdiv 3).tmod 3/\(p.tdiv 3).tmod 3<3:=⟨N0 _ hd.1,Nu _ om⟩
 refine aN bI func23 rfl ?_;refine Rr ?_;rw[w64 (x:=3*i) (y:=3*i) rfl ⟨om,om⟩,w64 (x:=3*i+j) (y:=3*i+j) rfl ⟨om,om⟩,w64 (x:=3*i+j+2) (y:=3*i+j+2) rfl ⟨om,om⟩];refine hp.go ?_;refine Rr ?_;refine aE (fun h=>?_) (fun h=>?_)
 ·have h:p.tmod 3=0:=by simpa using h
  refine Rr ?_;refine aM (by rw[Nz om];rfl) ?_;refine Rr ?_;refine aA nn ⟨?_,rfl,rfl⟩;rw[Mr h,w64 (x:=p.tdiv 3) (y:=p.tdiv 3) rfl ⟨om,om⟩]
 ·have h:¬p.tmod 3=0:=by simpa using h
  refine Rr ?_;refine aA nn ⟨?_,rfl,rfl⟩;rw[Mm h,w64 (x:=p.tdiv 3) (y:=p.tdiv 3) rfl ⟨om,om⟩,w64 (x:=i-1) (y:=i-1) rfl ⟨om,om⟩,w64 (x:=i-1-(p.tdiv 3).tmod 3) (y:=i-1-(p.tdiv 3).tmod 3) rfl ⟨om,om⟩];congr 1;simp;omega
theorem Je(k:Int)(h0:0<=k)(h1:k<=1000000):aZ prog [] 22 [.int .i64 k] (cD (qC k)):=by
 have hd:0<=k.tdiv 4/\k.tdiv 4<=1000000:=by
  rw[OJ h0];omega
 have hm:0<=k.tmod 4/\k.tmod 4<4:=⟨N0 _ h0,Nu _ om⟩
 have h9:0<=(k.tdiv 4).tmod 9/\(k.tdiv 4).tmod 9<9:=⟨N0 _ hd.1,Nu _ om⟩
 have h3:0<=(k.tdiv 4).tmod 3/\(k.tdiv 4).tmod 3<3:=⟨N0 _ hd.1,Nu _ om⟩
 have hw:IntKind.i64.wrap (k.tdiv 4)=k.tdiv 4:=w64 rfl ⟨om,om⟩;have hv:qC k=if k.tmod 4=0 then .mk 0 ((k.tdiv 4).tmod 9-4) [] []
  else if k.tmod 4=1 then .mk 1 ((k.tdiv 4).tmod 2) [] []
  else if k.tmod 4=2 then .mk 3 0 (([[76,101,97,102],[82,101,100],[88]]:List (List UInt8)).getD ((k.tdiv 4).tmod 3).toNat []) []
  else .mk 2 0 [] [.mk 0 ((k.tdiv 4).tmod 3) [] []]:=rfl
 generalize qC k=v at hv;have hw9:IntKind.i64.wrap ((k.tdiv 4).tmod 9-4)=(k.tdiv 4).tmod 9-4:=w64 rfl ⟨om,om⟩;refine aN bI func22 rfl ?_;rcases(show k.tmod 4=0∨k.tmod 4=1∨k.tmod 4=2∨k.tmod 4=3 by omega) with e|e|e|e
 ·rw[Mr e] at hv;refine Rr ?_;rw[e];refine Rr ?_;rw[hw,hw9];exact lR (.agg' (.s (.s (.s (.cons (.nil 4) .nil))))) ⟨by rw[hv];rfl,rfl,rfl⟩
 ·rw[Mm om,Mr e] at hv;refine Rr ?_;rw[e];refine Rr ?_;rw[hw];exact lR (.agg' (.s (.s (.s (.cons (.nil 4) .nil))))) ⟨by rw[hv];rfl,rfl,rfl⟩
 ·rw[Mm om,Mm om,Mr e] at hv;refine Rr ?_;rw[e];refine Rr ?_;rw[hw];rcases(show (k.tdiv 4).tmod 3=0∨(k.tdiv 4).tmod 3=1∨(k.tdiv 4).tmod 3=2 by omega) with e3|e3|e3
  all_goals
   rw[e3] at hv ⊢;refine Rr ?_;exact lR (.agg' (.s (.s (.s (.cons (.nil 4) .nil))))) ⟨by rw[hv];rfl,rfl,rfl⟩
 ·rw[Mm om,Mm om,Mm om] at hv;refine Rr ?_;rw[e];refine Rr ?_;rw[hw];exact lR (.agg' (.s (.s (.s (.cons (.fzR rfl rfl (.cons (Br _ _ _) .nil) rfl) .nil))))) ⟨by rw[hv];rfl,rfl,rfl⟩
end Go.Proofs.YtpajadlnaokngaaGreatDoor
