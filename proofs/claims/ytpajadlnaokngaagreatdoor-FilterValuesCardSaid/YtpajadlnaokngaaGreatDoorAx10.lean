/- A part of the proof. -/
import Derived.Test.YtpajadlnaokngaaGreatDoorAx9
import Derived.Test.YtpajadlnaokngaaGreatDoorProg
import Derived.KernelRfl
set_option linter.unusedVariables false
set_option linter.unusedSimpArgs false
set_option linter.unusedSectionVars false
namespace Go.Proofs.YtpajadlnaokngaaGreatDoor
open Go Go.Ax Go.Proofs Tryz
set_option maxRecDepth 100000
set_option maxHeartbeats 4000000
theorem K5:∀v:aU,aV v<=1099511627776->a7 prog [] 135 [bV v] (.int .i64 (aV v))
 | .mk vk vn vs ks,hs=>by
  have hs':bT ks+1<=1099511627776:=by simp only[aV] at hs;omega
  have ih:∀a∈ks,a7 prog [] 135 [bV a] (.int .i64 (aV a)):=fun a hm=>K5 a (by have:=CI hm;omega)
  have hl:=wQ ks;refine aO bD func135 rfl ?_;refine Rr ?_;refine aZ.at bD (fun k:Nat=>k<=ks.length)
   (fun k=>⟨[(1,.ptr 0 0 0),(3,.int .i64 (1+bT (ks.take k):Nat)),(4,.int .i64 k)],[(0,.row 57 4 [bV (.mk vk vn vs ks)])],1,21⟩)
   (fun k=>ks.length-k) 0 [(0,0)] (by simp)
   (aI _ rfl ⟨aJ 0 cC,trivial⟩ ⟨aM,aG,aG,trivial⟩) ?_
  intro k hk;refine Rr ?_;refine aE (fun h=>?_) (fun h=>?_)
  ·have hlt:=EF h;obtain⟨a,b,c,d,hm,hg,he,e1⟩:=bB hlt;have hsz:=uE hlt;have hle:=mO ks (k+1);rw[he] at hsz;refine Rr ?_;refine aD e1 ?_;refine Rr ?_;refine(ih _ hm).go ?_;refine Rr ?_;exact .mk (k+1) [(0,0)] om (aI _ rfl ⟨aJ 0 cC,trivial⟩ ⟨aM,⟨_,rfl,.w64 om ⟨om,om⟩⟩,⟨_,rfl,.w64 om ⟨om,om⟩⟩,trivial⟩) om
  ·have hk':k=ks.length:=by have:=EG h;omega
   refine Rr ?_;refine aB nn ⟨?_,rfl,rfl⟩;rw[hk',RG,aV]
 termination_by v=>SizeOf.sizeOf v
 decreasing_by simp;have:=R4 hm;omega
theorem Mm(c:Int):a7 prog [] 279 [.int .u8 c] (.bool (sW c)):=by
 refine aO bD func279 rfl ?_;refine Rr ?_;repeat' (refine aE (fun h=>?_) (fun h=>?_)<;>((try rw[h]);refine Rr ?_))
 all_goals
  refine aB nn ⟨?_,rfl,rfl⟩;congr 1;rw[RT];simp[sW] at *;try omega
theorem KC(s:List UInt8)(hs:s.length<=4294967296):a7 prog [] 266 [.str s] (.bool (dD s)):=by
  refine aO bD func266 rfl ?_;refine Rr ?_;refine aE (fun h=>?_) (fun h=>?_)
  · rw[h]
    refine Rr ?_;refine aB nn ⟨?_,rfl,rfl⟩;rw[pX (by simp at h;omega)]
  have h1:1<=s.length:=by simp at h;omega
  rw[h];refine Rr ?_;refine aE (fun h=>?_) (fun h=>?_)
  · rw[h]
    refine Rr ?_;refine aB nn ⟨?_,rfl,rfl⟩;rw[nV (by simp at h;omega)]
  have h2:s.length<=16:=by simp at h;omega
  rw[h];obtain⟨a,ha⟩:∃a,s[0]? = some a:=⟨s[0],by simp⟩
  refine Rr ?_;refine aD ha ?_;refine Rr ?_;refine aE (fun h=>?_) (fun h=>?_)
  · rw[h]
    refine Rr ?_;refine aB nn ⟨?_,rfl,rfl⟩;rw[g7 ha (by simp[jX] at *;omega)]
  have h3:65<=(a.toNat:Int):=by simpa using h
  rw[h];refine Rr ?_;refine aD ha ?_;refine Rr ?_;refine aE (fun h=>?_) (fun h=>?_)
  · refine Rr ?_
    refine aB nn ⟨?_,rfl,rfl⟩;rw[g7 ha (by simp[jX] at *;omega)]
  have h4:(a.toNat:Int)<=90:=by simpa using h
  refine Rr ?_;refine aZ.at bD (fun i:Nat=>i<=s.length/\∀j c,j<i->s[j]? = some c->sW c.toNat=true)
    (fun i=>⟨[(0,.str s),(3,.int .i64 i)],[],0,64⟩) (fun i=>s.length-i) 0 [] ⟨by simp,by simp⟩
    (bC ⟨aG,aG,trivial⟩) ?_
  rintro i ⟨hi,hall⟩;refine Rr ?_;refine aE (fun h=>?_) (fun h=>?_)
  · have hlt:i<s.length:=by simpa using h
    obtain⟨c,hc⟩:∃c,s[i]? = some c:=⟨s[i],by simp[hlt]⟩
    have hc':s[(i:Int).toNat]? = some c:=by rw[Q4];exact hc
    refine Rr ?_;refine aD hc' ?_;refine Rr ?_;repeat' (refine aE (fun h=>?_) (fun h=>?_)<;>((try rw[h]);refine Rr ?_))
    all_goals first
      | (refine aB nn ⟨?_,rfl,rfl⟩
         rw[tR hc (by rw[R6];simp[sW] at *;omega)])
      | (refine .mk (i+1) [] ⟨om,fun j c2 hj hc2=>?_⟩ (bC ⟨aG,⟨_,rfl,.w64 om ⟨om,om⟩⟩,trivial⟩) om
         rcases Q6 j i with hj'|hj'
         · exact hall j c2 hj' hc2
         · have hji:j=i:=om
           rw[hji,hc] at hc2;cases hc2;simp[sW] at *;omega)
  · refine Rr ?_
    refine aB nn ⟨?_,rfl,rfl⟩;have hk:i=s.length:=by simp at h;omega
    rw[Go.Ax.t7 ha h2 (by simp[jX];omega) fun j c hc=>hall j c (by rw[hk];exact(Qv.1 hc).1) hc]
theorem Jh(s:List UInt8)(hs:s.length<=4294967296):a7 prog [] 229 [.str s] (.bool (dD s)):=by
 refine aO bD func229 rfl ?_;refine Rr ?_;refine aE (fun h=>?_) (fun h=>?_)
 ·rw[h];refine Rr ?_;refine aB nn ⟨?_,rfl,rfl⟩;rw[pX (by simp at h;rw[h];simp)]
 have h1:1<=s.length:=by
  rcases RM s.length with h'|h'
  ·rw[Q7 h'] at h;simp at h
  ·exact h'
 rw[h];refine Rr ?_;refine aE (fun h=>?_) (fun h=>?_)
 ·rw[h];refine Rr ?_;refine aB nn ⟨?_,rfl,rfl⟩;rw[nV (by simp at h;omega)]
 have h2:s.length<=16:=by simp at h;omega
 rw[h];obtain⟨a,ha⟩:∃a,s[0]? = some a:=⟨s[0],by simp⟩
 refine Rr ?_;refine aD ha ?_;refine Rr ?_;refine aE (fun h=>?_) (fun h=>?_)
 ·rw[h];refine Rr ?_;refine aB nn ⟨?_,rfl,rfl⟩;rw[g7 ha (by simp[jX] at *;omega)]
 have h3:65<=(a.toNat:Int):=by simpa using h
 rw[h];refine Rr ?_;refine aD ha ?_;refine Rr ?_;refine aE (fun h=>?_) (fun h=>?_)
 ·refine Rr ?_;refine aB nn ⟨?_,rfl,rfl⟩;rw[g7 ha (by simp[jX] at *;omega)]
 have h4:(a.toNat:Int)<=90:=by simpa using h
 have hua:jX a.toNat=true:=by simp[jX];omega
 refine Rr ?_;refine aZ.at bD (fun i:Nat=>1<=i/\i<=s.length/\∀j c,j<i->s[j]? = some c->sW c.toNat=true)
  (fun i=>⟨[(0,.str s),(3,.int .i64 i)],[],0,32⟩) (fun i=>s.length-i) 1 [] ⟨by simp,h1,fun j c hj hc=>by rw[show j=0 by omega,ha] at hc;cases hc;exact El hua⟩
  (bC ⟨aG,aG,trivial⟩) ?_
 rintro i ⟨h0,hi,hall⟩;refine Rr ?_;refine aE (fun h=>?_) (fun h=>?_)
 ·have hlt:i<s.length:=by simpa using h
  obtain⟨c,hc⟩:∃c,s[i]? = some c:=⟨s[i],by simp[hlt]⟩
  have hc':s[(i:Int).toNat]? = some c:=by rw[Q4];exact hc
  refine Rr ?_;refine aD hc' ?_;refine Rr ?_;refine(Mm c.toNat).go ?_;refine Rr ?_;cases hb:sW c.toNat with
  | false=>
   refine Rr ?_;refine aB nn ⟨?_,rfl,rfl⟩;rw[tR hc hb]
  | true=>
   refine Rr ?_;refine .mk (i+1) [] ⟨om,om,fun j c2 hj hc2=>?_⟩ (bC ⟨aG,⟨_,rfl,.w64 om ⟨om,om⟩⟩,trivial⟩) om;rcases Q6 j i with hj'|hj'
   ·exact hall j c2 hj' hc2
   ·have hji:j=i:=om;rw[hji,hc] at hc2;cases hc2;exact hb
 ·refine Rr ?_;refine aB nn ⟨?_,rfl,rfl⟩;have hk:i=s.length:=by simp at h;omega
  rw[Go.Ax.t7 ha h2 hua fun j c hc=>hall j c (by rw[hk];exact(Qv.1 hc).1) hc]
set_option maxHeartbeats 4000000
theorem MY(vk vn:Int)(vs:List UInt8)(ks:List aU)(hs:vs.length<=4294967296):a7 prog [] 164 [bV (.mk vk vn vs ks)] (.bool (bW vk vn vs ks.length)):=by
 refine aO bD func164 rfl ?_;refine Rr ?_;repeat' (first|(refine aE (fun h=>?_) (fun h=>?_)<;>((try rw[h]);refine Rr ?_))|(refine(Jh vs hs).go ?_;refine Rr ?_))
 all_goals
  refine aB nn ⟨?_,rfl,rfl⟩;congr 1;rw[RT];simp_all[bW,aA,Ru,List.isEmpty_iff]
theorem O6(vk vn:Int)(vs:List UInt8)(ks:List aU):a7 prog [] 165 [bV (.mk vk vn vs ks)] (.bool (s5 vk ks.length)):=by
 refine aO bD func165 rfl ?_;refine Rr ?_;repeat' (refine aE (fun h=>?_) (fun h=>?_)<;>((try rw[h]);refine Rr ?_))
 all_goals
  refine aB nn ⟨?_,rfl,rfl⟩;congr 1;rw[RT];simp[s5,aA] at *;try omega
theorem Gz:∀v:aU,fY v->a7 prog [] 211 [bV v] (.bool (bJ v))
  | .mk vk vn vs ks,hv=>by
    simp only[fY] at hv;obtain⟨hv1,hv2,hv3,hv4,hv5⟩:=hv;have ih:∀a∈ks,a7 prog [] 211 [bV a] (.bool (bJ a)):=fun a hm=>Gz a (lH hv5 a hm)
    clear hv5;refine aO bD func211 rfl ?_;refine Rr ?_;refine(KC vs hv3).go ?_;obtain⟨cb,hcb⟩:∃cb,cb=dD vs:=⟨_,rfl⟩
    rw[←hcb];rcases(show vk=0∨vk=1∨vk=2∨vk=3∨(vk<0∨3<vk) by omega) with rfl|rfl|rfl|rfl|hk
    · refine Rr ?_
      repeat' (refine aE (fun h=>?_) (fun h=>?_)<;>((try rw[h]);refine Rr ?_))
      all_goals first
        | (refine aB nn ⟨?_,rfl,rfl⟩
           clear ih;have hf1:bW 0 vn vs ks.length=false:=by
             rw[R6];simp_all[bW,aA,Rn];try omega
           rw[bJ,hf1];rfl)
        | (have hf1:bW 0 vn vs ks.length=true:=by
             clear ih;simp_all[bW,aA,Rn];try omega
           refine aZ.at bD (fun k:Nat=>k<=ks.length/\cJ (ks.take k)=true)
             (fun k=>⟨[(1,.ptr 0 0 0),(4,.int .i64 k)],[(0,.row 57 4 [bV (.mk 0 vn vs ks)])],1,95⟩) (fun k=>ks.length-k) 0 [(0,0)] ⟨by simp,rfl⟩
             (aI _ rfl ⟨aJ 0 cC,trivial⟩ ⟨aM,aG,trivial⟩) ?_
           rintro k ⟨hk,hall⟩;refine Rr ?_;refine aE (fun h=>?_) (fun h=>?_)
           · have hlt:=EF h
             obtain⟨a,b,c,d,hm,hg,he,e1⟩:=bB hlt;have hih:=ih _ hm;obtain⟨fb,hfb⟩:∃fb,fb=bJ (.mk a b c d):=⟨_,rfl⟩
             rw[←hfb] at hih;refine Rr ?_;refine aD e1 ?_;refine Rr ?_;refine hih.go ?_;cases fb with
             | false=>
               refine Rr ?_;refine aB nn ⟨?_,rfl,rfl⟩;rw[bJ,jJ hm hfb.symm,SZ]
             | true=>
               refine Rr ?_;refine .mk (k+1) [(0,0)] ⟨om, ?_⟩ (aI _ rfl ⟨aJ 0 cC,trivial⟩ ⟨aM,⟨_,rfl,.w64 om ⟨om,om⟩⟩,trivial⟩) om;rw[kF hlt,hall,he,←hfb];rfl
           · have hk':k=ks.length:=by have:=EG h;omega
             refine Rr ?_;refine aB nn ⟨?_,rfl,rfl⟩;rw[hk',RG] at hall;rw[bJ,hf1,hall];rfl)
    · refine Rr ?_
      repeat' (refine aE (fun h=>?_) (fun h=>?_)<;>((try rw[h]);refine Rr ?_))
      all_goals first
        | (refine aB nn ⟨?_,rfl,rfl⟩
           clear ih;have hf1:bW 1 vn vs ks.length=false:=by
             rw[R6];simp_all[bW,aA,Rn];try omega
           rw[bJ,hf1];rfl)
        | (have hf1:bW 1 vn vs ks.length=true:=by
             clear ih;simp_all[bW,aA,Rn];try omega
           refine aZ.at bD (fun k:Nat=>k<=ks.length/\cJ (ks.take k)=true)
             (fun k=>⟨[(1,.ptr 0 0 0),(4,.int .i64 k)],[(0,.row 57 4 [bV (.mk 1 vn vs ks)])],1,95⟩) (fun k=>ks.length-k) 0 [(0,0)] ⟨by simp,rfl⟩
             (aI _ rfl ⟨aJ 0 cC,trivial⟩ ⟨aM,aG,trivial⟩) ?_
           rintro k ⟨hk,hall⟩;refine Rr ?_;refine aE (fun h=>?_) (fun h=>?_)
           · have hlt:=EF h
             obtain⟨a,b,c,d,hm,hg,he,e1⟩:=bB hlt;have hih:=ih _ hm;obtain⟨fb,hfb⟩:∃fb,fb=bJ (.mk a b c d):=⟨_,rfl⟩
             rw[←hfb] at hih;refine Rr ?_;refine aD e1 ?_;refine Rr ?_;refine hih.go ?_;cases fb with
             | false=>
               refine Rr ?_;refine aB nn ⟨?_,rfl,rfl⟩;rw[bJ,jJ hm hfb.symm,SZ]
             | true=>
               refine Rr ?_;refine .mk (k+1) [(0,0)] ⟨om, ?_⟩ (aI _ rfl ⟨aJ 0 cC,trivial⟩ ⟨aM,⟨_,rfl,.w64 om ⟨om,om⟩⟩,trivial⟩) om;rw[kF hlt,hall,he,←hfb];rfl
           · have hk':k=ks.length:=by have:=EG h;omega
             refine Rr ?_;refine aB nn ⟨?_,rfl,rfl⟩;rw[hk',RG] at hall;rw[bJ,hf1,hall];rfl)
    · refine Rr ?_
      repeat' (refine aE (fun h=>?_) (fun h=>?_)<;>((try rw[h]);refine Rr ?_))
      all_goals first
        | (refine aB nn ⟨?_,rfl,rfl⟩
           clear ih;have hf1:bW 2 vn vs ks.length=false:=by
             rw[R6];simp_all[bW];try omega
           rw[bJ,hf1];rfl)
        | (have hf1:bW 2 vn vs ks.length=true:=by
             clear ih;simp_all[bW];try omega
           refine aZ.at bD (fun k:Nat=>k<=ks.length/\cJ (ks.take k)=true)
             (fun k=>⟨[(1,.ptr 0 0 0),(4,.int .i64 k)],[(0,.row 57 4 [bV (.mk 2 vn vs ks)])],1,95⟩) (fun k=>ks.length-k) 0 [(0,0)] ⟨by simp,rfl⟩
             (aI _ rfl ⟨aJ 0 cC,trivial⟩ ⟨aM,aG,trivial⟩) ?_
           rintro k ⟨hk,hall⟩;refine Rr ?_;refine aE (fun h=>?_) (fun h=>?_)
           · have hlt:=EF h
             obtain⟨a,b,c,d,hm,hg,he,e1⟩:=bB hlt;have hih:=ih _ hm;obtain⟨fb,hfb⟩:∃fb,fb=bJ (.mk a b c d):=⟨_,rfl⟩
             rw[←hfb] at hih;refine Rr ?_;refine aD e1 ?_;refine Rr ?_;refine hih.go ?_;cases fb with
             | false=>
               refine Rr ?_;refine aB nn ⟨?_,rfl,rfl⟩;rw[bJ,jJ hm hfb.symm,SZ]
             | true=>
               refine Rr ?_;refine .mk (k+1) [(0,0)] ⟨om, ?_⟩ (aI _ rfl ⟨aJ 0 cC,trivial⟩ ⟨aM,⟨_,rfl,.w64 om ⟨om,om⟩⟩,trivial⟩) om;rw[kF hlt,hall,he,←hfb];rfl
           · have hk':k=ks.length:=by have:=EG h;omega
             refine Rr ?_;refine aB nn ⟨?_,rfl,rfl⟩;rw[hk',RG] at hall;rw[bJ,hf1,hall];rfl)
    · refine Rr ?_
      repeat' (refine aE (fun h=>?_) (fun h=>?_)<;>((try rw[h]);refine Rr ?_))
      all_goals first
        | (refine aB nn ⟨?_,rfl,rfl⟩
           clear ih;have hf1:bW 3 vn vs ks.length=false:=by
             rw[R6];simp_all[bW];try omega
           rw[bJ,hf1];rfl)
        | (have hf1:bW 3 vn vs ks.length=true:=by
             clear ih;simp_all[bW];try omega
           refine aZ.at bD (fun k:Nat=>k<=ks.length/\cJ (ks.take k)=true)
             (fun k=>⟨[(1,.ptr 0 0 0),(4,.int .i64 k)],[(0,.row 57 4 [bV (.mk 3 vn vs ks)])],1,95⟩) (fun k=>ks.length-k) 0 [(0,0)] ⟨by simp,rfl⟩
             (aI _ rfl ⟨aJ 0 cC,trivial⟩ ⟨aM,aG,trivial⟩) ?_
           rintro k ⟨hk,hall⟩;refine Rr ?_;refine aE (fun h=>?_) (fun h=>?_)
           · have hlt:=EF h
             obtain⟨a,b,c,d,hm,hg,he,e1⟩:=bB hlt;have hih:=ih _ hm;obtain⟨fb,hfb⟩:∃fb,fb=bJ (.mk a b c d):=⟨_,rfl⟩
             rw[←hfb] at hih;refine Rr ?_;refine aD e1 ?_;refine Rr ?_;refine hih.go ?_;cases fb with
             | false=>
               refine Rr ?_;refine aB nn ⟨?_,rfl,rfl⟩;rw[bJ,jJ hm hfb.symm,SZ]
             | true=>
               refine Rr ?_;refine .mk (k+1) [(0,0)] ⟨om, ?_⟩ (aI _ rfl ⟨aJ 0 cC,trivial⟩ ⟨aM,⟨_,rfl,.w64 om ⟨om,om⟩⟩,trivial⟩) om;rw[kF hlt,hall,he,←hfb];rfl
           · have hk':k=ks.length:=by have:=EG h;omega
             refine Rr ?_;refine aB nn ⟨?_,rfl,rfl⟩;rw[hk',RG] at hall;rw[bJ,hf1,hall];rfl)
    · have e0:(vk == 0)=false:=by simp;omega
      have e1:(vk == 1)=false:=by simp;omega
      have e2:(vk == 2)=false:=by simp;omega
      have e3:(vk == 3)=false:=by simp;omega
      have hf1:bW vk vn vs ks.length=false:=by
        unfold bW;rw[Qz om,Qz om,Qz om,Qz om]
      have hfin:AV.bool false=AV.bool (bJ (.mk vk vn vs ks)):=by rw[bJ,hf1];rfl
      refine Rr ?_;repeat((first|rw[e0]|rw[e1]|rw[e2]|rw[e3]);refine Rr ?_)
      refine aE (fun h=>?_) (fun h=>?_)
      · rw[h]
        refine Rr ?_;exact aB nn ⟨hfin,rfl,rfl⟩
      · rw[h]
        refine Rr ?_;refine aE (fun h'=>?_) (fun h'=>?_)
        · refine Rr ?_
          exact aB nn ⟨hfin,rfl,rfl⟩
        · exfalso
          simp at h h';omega
  termination_by v=>SizeOf.sizeOf v
  decreasing_by simp;have:=R4 hm;omega
theorem Ns:∀v:aU,fY v->a7 prog [] 212 [bV v] (.bool (jW v))
  | .mk vk vn vs ks,hv=>by
    simp only[fY] at hv;obtain⟨hv1,hv2,hv3,hv4,hv5⟩:=hv;have ih:∀a∈ks,a7 prog [] 212 [bV a] (.bool (jW a)):=fun a hm=>Ns a (lH hv5 a hm)
    clear hv5;refine aO bD func212 rfl ?_;refine Rr ?_;repeat' (refine aE (fun h=>?_) (fun h=>?_)<;>((try rw[h]);refine Rr ?_))
    all_goals first
      | (refine aB nn ⟨?_,rfl,rfl⟩
         clear ih;have hf1:v5 vk ks.length=true:=by
           simp[v5,aA] at *;omega
         rw[jW,hf1];rfl)
      | (have hf1:v5 vk ks.length=false:=by
           clear ih;rw[R6];simp[v5,aA] at *;omega
         refine aZ.at bD (fun k:Nat=>k<=ks.length/\mV (ks.take k)=false)
           (fun k=>⟨[(1,.ptr 0 0 0),(3,.int .i64 k)],[(0,.row 57 4 [bV (.mk vk vn vs ks)])],1,39⟩) (fun k=>ks.length-k) 0 [(0,0)] ⟨by simp,rfl⟩
           (aI _ rfl ⟨aJ 0 cC,trivial⟩ ⟨aM,aG,trivial⟩) ?_
         rintro k ⟨hk,hall⟩;refine Rr ?_;refine aE (fun h=>?_) (fun h=>?_)
         · have hlt:=EF h
           obtain⟨a,b,c,d,hm,hg,he,e1⟩:=bB hlt;have hih:=ih _ hm;obtain⟨fb,hfb⟩:∃fb,fb=jW (.mk a b c d):=⟨_,rfl⟩
           rw[←hfb] at hih;refine Rr ?_;refine aD e1 ?_;refine Rr ?_;refine hih.go ?_;cases fb with
           | true=>
             refine Rr ?_;refine aB nn ⟨?_,rfl,rfl⟩;rw[jW,Bo hm hfb.symm,Bool.or_true]
           | false=>
             refine Rr ?_;refine .mk (k+1) [(0,0)] ⟨om, ?_⟩ (aI _ rfl ⟨aJ 0 cC,trivial⟩ ⟨aM,⟨_,rfl,.w64 om ⟨om,om⟩⟩,trivial⟩) om;rw[Fz hlt,hall,he,←hfb];rfl
         · have hk':k=ks.length:=by have:=EG h;omega
           refine Rr ?_;refine aB nn ⟨?_,rfl,rfl⟩;rw[hk',RG] at hall;rw[jW,hf1,hall];rfl)
  termination_by v=>SizeOf.sizeOf v
  decreasing_by simp;have:=R4 hm;omega
theorem OF:∀v:aU,fY v->aV v<=1099511627776->a7 prog [] 133 [bV v] (.int .i64 (dW v))
 | .mk vk vn vs ks,hv,hs=>by
  have h1:=Gz _ hv;have h2:=Ns _ hv;have h3:=K5 _ hs;have hval:dW (.mk vk vn vs ks)=if bJ (.mk vk vn vs ks)=false then 1 else if jW (.mk vk vn vs ks)=true∨1024<aV (.mk vk vn vs ks) then 4 else 0:=rfl
  generalize bJ (.mk vk vn vs ks)=fb at h1 hval;generalize jW (.mk vk vn vs ks)=wb at h2 hval;generalize aV (.mk vk vn vs ks)=sz at h3 hval;generalize dW (.mk vk vn vs ks)=res at hval;refine aO bD func133 rfl ?_;refine Rr ?_;refine h1.go ?_;cases fb with
  | false=>
   refine Rr ?_;refine aB nn ⟨?_,rfl,rfl⟩;rw[hval];rfl
  | true=>
   refine Rr ?_;refine h2.go ?_;cases wb with
   | true=>
    refine Rr ?_;refine aB nn ⟨?_,rfl,rfl⟩;rw[hval];simp
   | false=>
    refine Rr ?_;refine h3.go ?_;refine Rr ?_;refine aE (fun h=>?_) (fun h=>?_)
    ·refine Rr ?_;refine aB nn ⟨?_,rfl,rfl⟩;rw[hval,Qz (by simp),Q3 (by simp at h;omega)]
    ·refine Rr ?_;refine aB nn ⟨?_,rfl,rfl⟩;rw[hval,Qz (by simp),Qz (by simp at h;simp;omega)]
set_option maxHeartbeats 4000000
theorem JG(n:Int):i64 (IntKind.i64.wrap n):=by
 rw[IntKind.wrap_i64];exact⟨om,om⟩
theorem vG(n most:Int)(hn:i64 n)(hm:1<=most):a7 prog [] 26 [.int .i64 n,.int .i64 most] (.int .i64 (iN n most)):=by
 have hz:decide (most≠0)=true:=by simp;omega
 unfold i64 at hn;refine aO bD func26 rfl ?_;refine Rr ?_;refine aE (fun h=>?_) (fun h=>?_)
 ·have h:n<0:=by simpa using h
  refine Rr ?_;refine aK (by rw[Rd om];rfl) ?_;refine Rr ?_;refine aB nn ⟨?_,rfl,rfl⟩;rw[iN,Q3 h,w64 (x:=n+1) (y:=n+1) rfl ⟨om,om⟩,w64 (x:=0-(n+1)) (y:=-(n+1)) om ⟨om,om⟩]
 ·have h:¬n<0:=by simpa using h
  refine Rr ?_;refine aK (by rw[Rd om];rfl) ?_;refine Rr ?_;refine aB nn ⟨?_,rfl,rfl⟩;rw[iN,Qz h]
theorem Ec(l:List Int)(i most:Int)(hl:∀x∈l,i64 x)(hm:1<=most):a7 prog [] 21 [.il 1 (aW l),.int .i64 i,.int .i64 most] (.int .i64 (iO l i most)):=by
 refine aO bD func21 rfl ?_;refine Rr ?_;refine aE (fun h=>?_) (fun h=>?_)
 ·rw[h];refine Rr ?_;refine aB nn ⟨?_,rfl,rfl⟩;rw[iO,Q3 (.inl (by simpa using h))]
 ·have h0:0<=i:=by simpa using h
  rw[h];refine Rr ?_;refine aE (fun h=>?_) (fun h=>?_)
  ·refine Rr ?_;refine aB nn ⟨?_,rfl,rfl⟩;rw[aC] at h;rw[iO,Q3 (.inr (by simpa using h))]
  ·rw[aC] at h;have h1:i<l.length:=by simpa using h
   obtain⟨q,rfl⟩:=RB h0;have hq:q<l.length:=om;refine Rr ?_;refine aD (a:=.int .i64 l[q]) (by rw[Q4,bK,Qq hq];rfl) ?_;refine Rr ?_;refine(vG l[q] most (hl _ (Ra hq)) hm).go ?_;refine Rr ?_;refine aB nn ⟨?_,rfl,rfl⟩;rw[iO,Qz om,Q4,Qx,Qq hq];rfl
theorem Lq(l:List Int)(i j:Int)(hl:∀x∈l,i64 x)(hi:1<=i)(hi':i<=1000)(hj:0<=j)(hj':j<=1000):a7 prog [] 23 [.il 1 (aW l),.int .i64 i,.int .i64 j] (.int .i64 (mN l i j)):=by
 have hp:=Ec l (3*i+j+2) 1000000 hl om;have hb:=iH (l:=l) (i:=3*i+j+2) (most:=1000000) om;have hk:mN l i j=if (iO l (3*i+j+2) 1000000).tmod 3=0 then((iO l (3*i+j+2) 1000000).tdiv 3).tmod i else max 0 (i-1-((iO l (3*i+j+2) 1000000).tdiv 3).tmod 3):=rfl
 generalize iO l (3*i+j+2) 1000000=p at hp hb hk;rw[hk];have hd:0<=p.tdiv 3/\p.tdiv 3<=1000000:=by
  rw[Sa hb.1];omega
 have hd3:0<=(p.tdiv 3).tmod 3/\(p.tdiv 3).tmod 3<3:=⟨SG _ hd.1,SB _ om⟩
 refine aO bD func23 rfl ?_;refine Rr ?_;rw[w64 (x:=3*i) (y:=3*i) rfl ⟨om,om⟩,w64 (x:=3*i+j) (y:=3*i+j) rfl ⟨om,om⟩,w64 (x:=3*i+j+2) (y:=3*i+j+2) rfl ⟨om,om⟩];refine hp.go ?_;refine Rr ?_;refine aE (fun h=>?_) (fun h=>?_)
 ·have h:p.tmod 3=0:=by simpa using h
  refine Rr ?_;refine aK (by rw[Rd om];rfl) ?_;refine Rr ?_;refine aB nn ⟨?_,rfl,rfl⟩;rw[Q3 h,w64 (x:=p.tdiv 3) (y:=p.tdiv 3) rfl ⟨om,om⟩]
 ·have h:¬p.tmod 3=0:=by simpa using h
  refine Rr ?_;refine aB nn ⟨?_,rfl,rfl⟩;rw[Qz h,w64 (x:=p.tdiv 3) (y:=p.tdiv 3) rfl ⟨om,om⟩,w64 (x:=i-1) (y:=i-1) rfl ⟨om,om⟩,w64 (x:=i-1-(p.tdiv 3).tmod 3) (y:=i-1-(p.tdiv 3).tmod 3) rfl ⟨om,om⟩];congr 1;simp;omega
theorem Nk(k:Int)(h0:0<=k)(h1:k<=1000000):a7 prog [] 22 [.int .i64 k] (bV (tP k)):=by
 have hd:0<=k.tdiv 4/\k.tdiv 4<=1000000:=by
  rw[Sa h0];omega
 have hm:0<=k.tmod 4/\k.tmod 4<4:=⟨SG _ h0,SB _ om⟩
 have h9:0<=(k.tdiv 4).tmod 9/\(k.tdiv 4).tmod 9<9:=⟨SG _ hd.1,SB _ om⟩
 have h3:0<=(k.tdiv 4).tmod 3/\(k.tdiv 4).tmod 3<3:=⟨SG _ hd.1,SB _ om⟩
 have hw:IntKind.i64.wrap (k.tdiv 4)=k.tdiv 4:=w64 rfl ⟨om,om⟩;have hv:tP k=if k.tmod 4=0 then .mk 0 ((k.tdiv 4).tmod 9-4) [] []
  else if k.tmod 4=1 then .mk 1 ((k.tdiv 4).tmod 2) [] []
  else if k.tmod 4=2 then .mk 3 0 (([[76,101,97,102],[82,101,100],[88]]:List (List UInt8)).getD ((k.tdiv 4).tmod 3).toNat []) []
  else .mk 2 0 [] [.mk 0 ((k.tdiv 4).tmod 3) [] []]:=rfl
 generalize tP k=v at hv;have hw9:IntKind.i64.wrap ((k.tdiv 4).tmod 9-4)=(k.tdiv 4).tmod 9-4:=w64 rfl ⟨om,om⟩;refine aO bD func22 rfl ?_;rcases(show k.tmod 4=0∨k.tmod 4=1∨k.tmod 4=2∨k.tmod 4=3 by omega) with e|e|e|e
 ·rw[Q3 e] at hv;refine Rr ?_;rw[e];refine Rr ?_;rw[hw,hw9];exact dK (.agg' (.s (.s (.s (.cons (.nil 4) .nil))))) ⟨by rw[hv];rfl,rfl,rfl⟩
 ·rw[Qz om,Q3 e] at hv;refine Rr ?_;rw[e];refine Rr ?_;rw[hw];exact dK (.agg' (.s (.s (.s (.cons (.nil 4) .nil))))) ⟨by rw[hv];rfl,rfl,rfl⟩
 ·rw[Qz om,Qz om,Q3 e] at hv;refine Rr ?_;rw[e];refine Rr ?_;rw[hw];rcases(show (k.tdiv 4).tmod 3=0∨(k.tdiv 4).tmod 3=1∨(k.tdiv 4).tmod 3=2 by omega) with e3|e3|e3
  all_goals
   rw[e3] at hv ⊢;refine Rr ?_;exact dK (.agg' (.s (.s (.s (.cons (.nil 4) .nil))))) ⟨by rw[hv];rfl,rfl,rfl⟩
 ·rw[Qz om,Qz om,Qz om] at hv;refine Rr ?_;rw[e];refine Rr ?_;rw[hw];exact dK (.agg' (.s (.s (.s (.cons (.fzR rfl rfl (.cons (Bx _ _ _) .nil) rfl) .nil))))) ⟨by rw[hv];rfl,rfl,rfl⟩
end Go.Proofs.YtpajadlnaokngaaGreatDoor
