/- A part of the proof. -/
import Derived.Test.YtobknjmfgjaehaaGreatDoorAx9
import Derived.Test.YtobknjmfgjaehaaGreatDoorProg
import Derived.KernelRfl
set_option linter.unusedVariables false
set_option linter.unusedSimpArgs false
set_option linter.unusedSectionVars false
namespace Go.Proofs.YtobknjmfgjaehaaGreatDoor
open Go Go.Ax Go.Proofs Tryz
set_option maxRecDepth 100000
set_option maxHeartbeats 4000000
theorem KL:∀v:a7,bC v<=1099511627776->a8 prog [] 115 [bK v] (.int .i64 (bC v))
 | .mk vk vn vs ks,hs=>by
  have hs':cE ks+1<=1099511627776:=by simp only[bC] at hs;omega
  have ih:∀a∈ks,a8 prog [] 115 [bK a] (.int .i64 (bC a)):=fun a hm=>KL a (by have:=B5 hm;omega)
  have hl:=xT ks;refine aM bG func115 rfl ?_;refine Rr ?_;refine a9.at bG (fun k:Nat=>k<=ks.length)
   (fun k=>⟨[(1,.ptr 0 0 0),(3,.int .i64 (1+cE (ks.take k):Nat)),(4,.int .i64 k)],[(0,.row 57 4 [bK (.mk vk vn vs ks)])],1,21⟩)
   (fun k=>ks.length-k) 0 [(0,0)] (by simp)
   (aE _ rfl ⟨aJ 0 cW,trivial⟩ ⟨aK,aF,aF,trivial⟩) ?_
  intro k hk;refine Rr ?_;refine aH (fun h=>?_) (fun h=>?_)
  ·have hlt:=El h;obtain⟨a,b,c,d,hm,hg,he,e1⟩:=bX hlt;have hsz:=u6 hlt;have hle:=oH ks (k+1);rw[he] at hsz;refine Rr ?_;refine aC e1 ?_;refine Rr ?_;refine(ih _ hm).go ?_;refine Rr ?_;exact .mk (k+1) [(0,0)] om (aE _ rfl ⟨aJ 0 cW,trivial⟩ ⟨aK,⟨_,rfl,.w64 om ⟨om,om⟩⟩,⟨_,rfl,.w64 om ⟨om,om⟩⟩,trivial⟩) om
  ·have hk':k=ks.length:=by have:=EM h;omega
   refine Rr ?_;refine aB nn ⟨?_,rfl,rfl⟩;rw[hk',List.take_length,bC]
 termination_by v=>SizeOf.sizeOf v
 decreasing_by simp;have:=List.sizeOf_lt_of_mem hm;omega
theorem LH(c:Int):a8 prog [] 193 [.int .u8 c] (.bool (tO c)):=by
 refine aM bG func193 rfl ?_;refine Rr ?_;repeat' (refine aH (fun h=>?_) (fun h=>?_)<;>((try rw[h]);refine Rr ?_))
 all_goals
  refine aB nn ⟨?_,rfl,rfl⟩;congr 1;rw[Bool.eq_iff_iff];simp[tO] at *;try omega
theorem Kj(s:List UInt8)(hs:s.length<=4294967296):a8 prog [] 176 [.str s] (.bool (eG s)):=by
  refine aM bG func176 rfl ?_;refine Rr ?_;refine aH (fun h=>?_) (fun h=>?_)
  · rw[h]
    refine Rr ?_;refine aB nn ⟨?_,rfl,rfl⟩;rw[rW (by simp at h;omega)]
  have h1:1<=s.length:=by simp at h;omega
  rw[h];refine Rr ?_;refine aH (fun h=>?_) (fun h=>?_)
  · rw[h]
    refine Rr ?_;refine aB nn ⟨?_,rfl,rfl⟩;rw[o9 (by simp at h;omega)]
  have h2:s.length<=16:=by simp at h;omega
  rw[h];obtain⟨a,ha⟩:∃a,s[0]? = some a:=⟨s[0],by simp⟩
  refine Rr ?_;refine aC ha ?_;refine Rr ?_;refine aH (fun h=>?_) (fun h=>?_)
  · rw[h]
    refine Rr ?_;refine aB nn ⟨?_,rfl,rfl⟩;rw[iT ha (by simp[lY] at *;omega)]
  have h3:65<=(a.toNat:Int):=by simpa using h
  rw[h];refine Rr ?_;refine aC ha ?_;refine Rr ?_;refine aH (fun h=>?_) (fun h=>?_)
  · refine Rr ?_
    refine aB nn ⟨?_,rfl,rfl⟩;rw[iT ha (by simp[lY] at *;omega)]
  have h4:(a.toNat:Int)<=90:=by simpa using h
  refine Rr ?_;refine a9.at bG (fun i:Nat=>i<=s.length/\∀j c,j<i->s[j]? = some c->tO c.toNat=true)
    (fun i=>⟨[(0,.str s),(3,.int .i64 i)],[],0,64⟩) (fun i=>s.length-i) 0 [] ⟨by simp,by simp⟩
    (cL ⟨aF,aF,trivial⟩) ?_
  rintro i ⟨hi,hall⟩;refine Rr ?_;refine aH (fun h=>?_) (fun h=>?_)
  · have hlt:i<s.length:=by simpa using h
    obtain⟨c,hc⟩:∃c,s[i]? = some c:=⟨s[i],by simp[hlt]⟩
    have hc':s[(i:Int).toNat]? = some c:=by rw[Int.toNat_natCast];exact hc
    refine Rr ?_;refine aC hc' ?_;refine Rr ?_;repeat' (refine aH (fun h=>?_) (fun h=>?_)<;>((try rw[h]);refine Rr ?_))
    all_goals first
      | (refine aB nn ⟨?_,rfl,rfl⟩
         rw[uZ hc (by rw[Bool.eq_false_iff];simp[tO] at *;omega)])
      | (refine .mk (i+1) [] ⟨om,fun j c2 hj hc2=>?_⟩ (cL ⟨aF,⟨_,rfl,.w64 om ⟨om,om⟩⟩,trivial⟩) om
         rcases Nat.lt_or_ge j i with hj'|hj'
         · exact hall j c2 hj' hc2
         · have hji:j=i:=om
           rw[hji,hc] at hc2;cases hc2;simp[tO] at *;omega)
  · refine Rr ?_
    refine aB nn ⟨?_,rfl,rfl⟩;have hk:i=s.length:=by simp at h;omega
    rw[u9 ha h2 (by simp[lY];omega) fun j c hc=>hall j c (by rw[hk];exact(List.getElem?_eq_some_iff.1 hc).1) hc]
theorem KB(s:List UInt8)(hs:s.length<=4294967296):a8 prog [] 181 [.str s] (.bool (eG s)):=by
 refine aM bG func181 rfl ?_;refine Rr ?_;refine aH (fun h=>?_) (fun h=>?_)
 ·rw[h];refine Rr ?_;refine aB nn ⟨?_,rfl,rfl⟩;rw[rW (by simp at h;rw[h];simp)]
 have h1:1<=s.length:=by
  rcases Nat.eq_zero_or_pos s.length with h'|h'
  ·rw[List.eq_nil_of_length_eq_zero h'] at h;simp at h
  ·exact h'
 rw[h];refine Rr ?_;refine aH (fun h=>?_) (fun h=>?_)
 ·rw[h];refine Rr ?_;refine aB nn ⟨?_,rfl,rfl⟩;rw[o9 (by simp at h;omega)]
 have h2:s.length<=16:=by simp at h;omega
 rw[h];obtain⟨a,ha⟩:∃a,s[0]? = some a:=⟨s[0],by simp⟩
 refine Rr ?_;refine aC ha ?_;refine Rr ?_;refine aH (fun h=>?_) (fun h=>?_)
 ·rw[h];refine Rr ?_;refine aB nn ⟨?_,rfl,rfl⟩;rw[iT ha (by simp[lY] at *;omega)]
 have h3:65<=(a.toNat:Int):=by simpa using h
 rw[h];refine Rr ?_;refine aC ha ?_;refine Rr ?_;refine aH (fun h=>?_) (fun h=>?_)
 ·refine Rr ?_;refine aB nn ⟨?_,rfl,rfl⟩;rw[iT ha (by simp[lY] at *;omega)]
 have h4:(a.toNat:Int)<=90:=by simpa using h
 have hua:lY a.toNat=true:=by simp[lY];omega
 refine Rr ?_;refine a9.at bG (fun i:Nat=>1<=i/\i<=s.length/\∀j c,j<i->s[j]? = some c->tO c.toNat=true)
  (fun i=>⟨[(0,.str s),(3,.int .i64 i)],[],0,32⟩) (fun i=>s.length-i) 1 [] ⟨by simp,h1,fun j c hj hc=>by rw[show j=0 by omega,ha] at hc;cases hc;exact EJ hua⟩
  (cL ⟨aF,aF,trivial⟩) ?_
 rintro i ⟨h0,hi,hall⟩;refine Rr ?_;refine aH (fun h=>?_) (fun h=>?_)
 ·have hlt:i<s.length:=by simpa using h
  obtain⟨c,hc⟩:∃c,s[i]? = some c:=⟨s[i],by simp[hlt]⟩
  have hc':s[(i:Int).toNat]? = some c:=by rw[Int.toNat_natCast];exact hc
  refine Rr ?_;refine aC hc' ?_;refine Rr ?_;refine(LH c.toNat).go ?_;refine Rr ?_;cases hb:tO c.toNat with
  | false=>
   refine Rr ?_;refine aB nn ⟨?_,rfl,rfl⟩;rw[uZ hc hb]
  | true=>
   refine Rr ?_;refine .mk (i+1) [] ⟨om,om,fun j c2 hj hc2=>?_⟩ (cL ⟨aF,⟨_,rfl,.w64 om ⟨om,om⟩⟩,trivial⟩) om;rcases Nat.lt_or_ge j i with hj'|hj'
   ·exact hall j c2 hj' hc2
   ·have hji:j=i:=om;rw[hji,hc] at hc2;cases hc2;exact hb
 ·refine Rr ?_;refine aB nn ⟨?_,rfl,rfl⟩;have hk:i=s.length:=by simp at h;omega
  rw[u9 ha h2 hua fun j c hc=>hall j c (by rw[hk];exact(List.getElem?_eq_some_iff.1 hc).1) hc]
set_option maxHeartbeats 4000000
theorem L0(vk vn:Int)(vs:List UInt8)(ks:List a7)(hs:vs.length<=4294967296):a8 prog [] 165 [bK (.mk vk vn vs ks)] (.bool (cS vk vn vs ks.length)):=by
 refine aM bG func165 rfl ?_;refine Rr ?_;repeat' (first|(refine aH (fun h=>?_) (fun h=>?_)<;>((try rw[h]);refine Rr ?_))|(refine(KB vs hs).go ?_;refine Rr ?_))
 all_goals
  refine aB nn ⟨?_,rfl,rfl⟩;congr 1;rw[Bool.eq_iff_iff];simp_all[cS,aA,List.length_eq_zero_iff,List.isEmpty_iff]
theorem Po(vk vn:Int)(vs:List UInt8)(ks:List a7):a8 prog [] 166 [bK (.mk vk vn vs ks)] (.bool (tS vk ks.length)):=by
 refine aM bG func166 rfl ?_;refine Rr ?_;repeat' (refine aH (fun h=>?_) (fun h=>?_)<;>((try rw[h]);refine Rr ?_))
 all_goals
  refine aB nn ⟨?_,rfl,rfl⟩;congr 1;rw[Bool.eq_iff_iff];simp[tS,aA] at *;try omega
theorem HA:∀v:a7,gD v->a8 prog [] 153 [bK v] (.bool (b8 v))
  | .mk vk vn vs ks,hv=>by
    simp only[gD] at hv;obtain⟨hv1,hv2,hv3,hv4,hv5⟩:=hv;have ih:∀a∈ks,a8 prog [] 153 [bK a] (.bool (b8 a)):=fun a hm=>HA a (nJ hv5 a hm)
    clear hv5;refine aM bG func153 rfl ?_;refine Rr ?_;refine(Kj vs hv3).go ?_;obtain⟨cb,hcb⟩:∃cb,cb=eG vs:=⟨_,rfl⟩
    rw[←hcb];rcases(show vk=0∨vk=1∨vk=2∨vk=3∨(vk<0∨3<vk) by omega) with rfl|rfl|rfl|rfl|hk
    · refine Rr ?_
      repeat' (refine aH (fun h=>?_) (fun h=>?_)<;>((try rw[h]);refine Rr ?_))
      all_goals first
        | (refine aB nn ⟨?_,rfl,rfl⟩
           clear ih;have hf1:cS 0 vn vs ks.length=false:=by
             rw[Bool.eq_false_iff];simp_all[cS,aA,List.length_pos_iff];try omega
           rw[b8,hf1];rfl)
        | (have hf1:cS 0 vn vs ks.length=true:=by
             clear ih;simp_all[cS,aA,List.length_pos_iff];try omega
           refine a9.at bG (fun k:Nat=>k<=ks.length/\c8 (ks.take k)=true)
             (fun k=>⟨[(1,.ptr 0 0 0),(4,.int .i64 k)],[(0,.row 57 4 [bK (.mk 0 vn vs ks)])],1,95⟩) (fun k=>ks.length-k) 0 [(0,0)] ⟨by simp,rfl⟩
             (aE _ rfl ⟨aJ 0 cW,trivial⟩ ⟨aK,aF,trivial⟩) ?_
           rintro k ⟨hk,hall⟩;refine Rr ?_;refine aH (fun h=>?_) (fun h=>?_)
           · have hlt:=El h
             obtain⟨a,b,c,d,hm,hg,he,e1⟩:=bX hlt;have hih:=ih _ hm;obtain⟨fb,hfb⟩:∃fb,fb=b8 (.mk a b c d):=⟨_,rfl⟩
             rw[←hfb] at hih;refine Rr ?_;refine aC e1 ?_;refine Rr ?_;refine hih.go ?_;cases fb with
             | false=>
               refine Rr ?_;refine aB nn ⟨?_,rfl,rfl⟩;rw[b8,lE hm hfb.symm,Bool.and_false]
             | true=>
               refine Rr ?_;refine .mk (k+1) [(0,0)] ⟨om, ?_⟩ (aE _ rfl ⟨aJ 0 cW,trivial⟩ ⟨aK,⟨_,rfl,.w64 om ⟨om,om⟩⟩,trivial⟩) om;rw[mA hlt,hall,he,←hfb];rfl
           · have hk':k=ks.length:=by have:=EM h;omega
             refine Rr ?_;refine aB nn ⟨?_,rfl,rfl⟩;rw[hk',List.take_length] at hall;rw[b8,hf1,hall];rfl)
    · refine Rr ?_
      repeat' (refine aH (fun h=>?_) (fun h=>?_)<;>((try rw[h]);refine Rr ?_))
      all_goals first
        | (refine aB nn ⟨?_,rfl,rfl⟩
           clear ih;have hf1:cS 1 vn vs ks.length=false:=by
             rw[Bool.eq_false_iff];simp_all[cS,aA,List.length_pos_iff];try omega
           rw[b8,hf1];rfl)
        | (have hf1:cS 1 vn vs ks.length=true:=by
             clear ih;simp_all[cS,aA,List.length_pos_iff];try omega
           refine a9.at bG (fun k:Nat=>k<=ks.length/\c8 (ks.take k)=true)
             (fun k=>⟨[(1,.ptr 0 0 0),(4,.int .i64 k)],[(0,.row 57 4 [bK (.mk 1 vn vs ks)])],1,95⟩) (fun k=>ks.length-k) 0 [(0,0)] ⟨by simp,rfl⟩
             (aE _ rfl ⟨aJ 0 cW,trivial⟩ ⟨aK,aF,trivial⟩) ?_
           rintro k ⟨hk,hall⟩;refine Rr ?_;refine aH (fun h=>?_) (fun h=>?_)
           · have hlt:=El h
             obtain⟨a,b,c,d,hm,hg,he,e1⟩:=bX hlt;have hih:=ih _ hm;obtain⟨fb,hfb⟩:∃fb,fb=b8 (.mk a b c d):=⟨_,rfl⟩
             rw[←hfb] at hih;refine Rr ?_;refine aC e1 ?_;refine Rr ?_;refine hih.go ?_;cases fb with
             | false=>
               refine Rr ?_;refine aB nn ⟨?_,rfl,rfl⟩;rw[b8,lE hm hfb.symm,Bool.and_false]
             | true=>
               refine Rr ?_;refine .mk (k+1) [(0,0)] ⟨om, ?_⟩ (aE _ rfl ⟨aJ 0 cW,trivial⟩ ⟨aK,⟨_,rfl,.w64 om ⟨om,om⟩⟩,trivial⟩) om;rw[mA hlt,hall,he,←hfb];rfl
           · have hk':k=ks.length:=by have:=EM h;omega
             refine Rr ?_;refine aB nn ⟨?_,rfl,rfl⟩;rw[hk',List.take_length] at hall;rw[b8,hf1,hall];rfl)
    · refine Rr ?_
      repeat' (refine aH (fun h=>?_) (fun h=>?_)<;>((try rw[h]);refine Rr ?_))
      all_goals first
        | (refine aB nn ⟨?_,rfl,rfl⟩
           clear ih;have hf1:cS 2 vn vs ks.length=false:=by
             rw[Bool.eq_false_iff];simp_all[cS];try omega
           rw[b8,hf1];rfl)
        | (have hf1:cS 2 vn vs ks.length=true:=by
             clear ih;simp_all[cS];try omega
           refine a9.at bG (fun k:Nat=>k<=ks.length/\c8 (ks.take k)=true)
             (fun k=>⟨[(1,.ptr 0 0 0),(4,.int .i64 k)],[(0,.row 57 4 [bK (.mk 2 vn vs ks)])],1,95⟩) (fun k=>ks.length-k) 0 [(0,0)] ⟨by simp,rfl⟩
             (aE _ rfl ⟨aJ 0 cW,trivial⟩ ⟨aK,aF,trivial⟩) ?_
           rintro k ⟨hk,hall⟩;refine Rr ?_;refine aH (fun h=>?_) (fun h=>?_)
           · have hlt:=El h
             obtain⟨a,b,c,d,hm,hg,he,e1⟩:=bX hlt;have hih:=ih _ hm;obtain⟨fb,hfb⟩:∃fb,fb=b8 (.mk a b c d):=⟨_,rfl⟩
             rw[←hfb] at hih;refine Rr ?_;refine aC e1 ?_;refine Rr ?_;refine hih.go ?_;cases fb with
             | false=>
               refine Rr ?_;refine aB nn ⟨?_,rfl,rfl⟩;rw[b8,lE hm hfb.symm,Bool.and_false]
             | true=>
               refine Rr ?_;refine .mk (k+1) [(0,0)] ⟨om, ?_⟩ (aE _ rfl ⟨aJ 0 cW,trivial⟩ ⟨aK,⟨_,rfl,.w64 om ⟨om,om⟩⟩,trivial⟩) om;rw[mA hlt,hall,he,←hfb];rfl
           · have hk':k=ks.length:=by have:=EM h;omega
             refine Rr ?_;refine aB nn ⟨?_,rfl,rfl⟩;rw[hk',List.take_length] at hall;rw[b8,hf1,hall];rfl)
    · refine Rr ?_
      repeat' (refine aH (fun h=>?_) (fun h=>?_)<;>((try rw[h]);refine Rr ?_))
      all_goals first
        | (refine aB nn ⟨?_,rfl,rfl⟩
           clear ih;have hf1:cS 3 vn vs ks.length=false:=by
             rw[Bool.eq_false_iff];simp_all[cS];try omega
           rw[b8,hf1];rfl)
        | (have hf1:cS 3 vn vs ks.length=true:=by
             clear ih;simp_all[cS];try omega
           refine a9.at bG (fun k:Nat=>k<=ks.length/\c8 (ks.take k)=true)
             (fun k=>⟨[(1,.ptr 0 0 0),(4,.int .i64 k)],[(0,.row 57 4 [bK (.mk 3 vn vs ks)])],1,95⟩) (fun k=>ks.length-k) 0 [(0,0)] ⟨by simp,rfl⟩
             (aE _ rfl ⟨aJ 0 cW,trivial⟩ ⟨aK,aF,trivial⟩) ?_
           rintro k ⟨hk,hall⟩;refine Rr ?_;refine aH (fun h=>?_) (fun h=>?_)
           · have hlt:=El h
             obtain⟨a,b,c,d,hm,hg,he,e1⟩:=bX hlt;have hih:=ih _ hm;obtain⟨fb,hfb⟩:∃fb,fb=b8 (.mk a b c d):=⟨_,rfl⟩
             rw[←hfb] at hih;refine Rr ?_;refine aC e1 ?_;refine Rr ?_;refine hih.go ?_;cases fb with
             | false=>
               refine Rr ?_;refine aB nn ⟨?_,rfl,rfl⟩;rw[b8,lE hm hfb.symm,Bool.and_false]
             | true=>
               refine Rr ?_;refine .mk (k+1) [(0,0)] ⟨om, ?_⟩ (aE _ rfl ⟨aJ 0 cW,trivial⟩ ⟨aK,⟨_,rfl,.w64 om ⟨om,om⟩⟩,trivial⟩) om;rw[mA hlt,hall,he,←hfb];rfl
           · have hk':k=ks.length:=by have:=EM h;omega
             refine Rr ?_;refine aB nn ⟨?_,rfl,rfl⟩;rw[hk',List.take_length] at hall;rw[b8,hf1,hall];rfl)
    · have e0:(vk == 0)=false:=by simp;omega
      have e1:(vk == 1)=false:=by simp;omega
      have e2:(vk == 2)=false:=by simp;omega
      have e3:(vk == 3)=false:=by simp;omega
      have hf1:cS vk vn vs ks.length=false:=by
        unfold cS;rw[if_neg om,if_neg om,if_neg om,if_neg om]
      have hfin:AV.bool false=AV.bool (b8 (.mk vk vn vs ks)):=by rw[b8,hf1];rfl
      refine Rr ?_;repeat((first|rw[e0]|rw[e1]|rw[e2]|rw[e3]);refine Rr ?_)
      refine aH (fun h=>?_) (fun h=>?_)
      · rw[h]
        refine Rr ?_;exact aB nn ⟨hfin,rfl,rfl⟩
      · rw[h]
        refine Rr ?_;refine aH (fun h'=>?_) (fun h'=>?_)
        · refine Rr ?_
          exact aB nn ⟨hfin,rfl,rfl⟩
        · exfalso
          simp at h h';omega
  termination_by v=>SizeOf.sizeOf v
  decreasing_by simp;have:=List.sizeOf_lt_of_mem hm;omega
theorem M6:∀v:a7,gD v->a8 prog [] 154 [bK v] (.bool (lZ v))
  | .mk vk vn vs ks,hv=>by
    simp only[gD] at hv;obtain⟨hv1,hv2,hv3,hv4,hv5⟩:=hv;have ih:∀a∈ks,a8 prog [] 154 [bK a] (.bool (lZ a)):=fun a hm=>M6 a (nJ hv5 a hm)
    clear hv5;refine aM bG func154 rfl ?_;refine Rr ?_;repeat' (refine aH (fun h=>?_) (fun h=>?_)<;>((try rw[h]);refine Rr ?_))
    all_goals first
      | (refine aB nn ⟨?_,rfl,rfl⟩
         clear ih;have hf1:xD vk ks.length=true:=by
           simp[xD,aA] at *;omega
         rw[lZ,hf1];rfl)
      | (have hf1:xD vk ks.length=false:=by
           clear ih;rw[Bool.eq_false_iff];simp[xD,aA] at *;omega
         refine a9.at bG (fun k:Nat=>k<=ks.length/\oR (ks.take k)=false)
           (fun k=>⟨[(1,.ptr 0 0 0),(3,.int .i64 k)],[(0,.row 57 4 [bK (.mk vk vn vs ks)])],1,39⟩) (fun k=>ks.length-k) 0 [(0,0)] ⟨by simp,rfl⟩
           (aE _ rfl ⟨aJ 0 cW,trivial⟩ ⟨aK,aF,trivial⟩) ?_
         rintro k ⟨hk,hall⟩;refine Rr ?_;refine aH (fun h=>?_) (fun h=>?_)
         · have hlt:=El h
           obtain⟨a,b,c,d,hm,hg,he,e1⟩:=bX hlt;have hih:=ih _ hm;obtain⟨fb,hfb⟩:∃fb,fb=lZ (.mk a b c d):=⟨_,rfl⟩
           rw[←hfb] at hih;refine Rr ?_;refine aC e1 ?_;refine Rr ?_;refine hih.go ?_;cases fb with
           | true=>
             refine Rr ?_;refine aB nn ⟨?_,rfl,rfl⟩;rw[lZ,CU hm hfb.symm,Bool.or_true]
           | false=>
             refine Rr ?_;refine .mk (k+1) [(0,0)] ⟨om, ?_⟩ (aE _ rfl ⟨aJ 0 cW,trivial⟩ ⟨aK,⟨_,rfl,.w64 om ⟨om,om⟩⟩,trivial⟩) om;rw[F5 hlt,hall,he,←hfb];rfl
         · have hk':k=ks.length:=by have:=EM h;omega
           refine Rr ?_;refine aB nn ⟨?_,rfl,rfl⟩;rw[hk',List.take_length] at hall;rw[lZ,hf1,hall];rfl)
  termination_by v=>SizeOf.sizeOf v
  decreasing_by simp;have:=List.sizeOf_lt_of_mem hm;omega
theorem Nr:∀v:a7,gD v->bC v<=1099511627776->a8 prog [] 113 [bK v] (.int .i64 (fG v))
 | .mk vk vn vs ks,hv,hs=>by
  have h1:=HA _ hv;have h2:=M6 _ hv;have h3:=KL _ hs;have hval:fG (.mk vk vn vs ks)=if b8 (.mk vk vn vs ks)=false then 1 else if lZ (.mk vk vn vs ks)=true∨1024<bC (.mk vk vn vs ks) then 4 else 0:=rfl
  generalize b8 (.mk vk vn vs ks)=fb at h1 hval;generalize lZ (.mk vk vn vs ks)=wb at h2 hval;generalize bC (.mk vk vn vs ks)=sz at h3 hval;generalize fG (.mk vk vn vs ks)=res at hval;refine aM bG func113 rfl ?_;refine Rr ?_;refine h1.go ?_;cases fb with
  | false=>
   refine Rr ?_;refine aB nn ⟨?_,rfl,rfl⟩;rw[hval];rfl
  | true=>
   refine Rr ?_;refine h2.go ?_;cases wb with
   | true=>
    refine Rr ?_;refine aB nn ⟨?_,rfl,rfl⟩;rw[hval];simp
   | false=>
    refine Rr ?_;refine h3.go ?_;refine Rr ?_;refine aH (fun h=>?_) (fun h=>?_)
    ·refine Rr ?_;refine aB nn ⟨?_,rfl,rfl⟩;rw[hval,if_neg (by simp),if_pos (by simp at h;omega)]
    ·refine Rr ?_;refine aB nn ⟨?_,rfl,rfl⟩;rw[hval,if_neg (by simp),if_neg (by simp at h;simp;omega)]
set_option maxHeartbeats 4000000
theorem JA(n:Int):i64 (IntKind.i64.wrap n):=by
 rw[IntKind.wrap_i64];exact⟨om,om⟩
theorem zW(n most:Int)(hn:i64 n)(hm:1<=most):a8 prog [] 13 [.int .i64 n,.int .i64 most] (.int .i64 (kY n most)):=by
 have hz:decide (most≠0)=true:=by simp;omega
 unfold i64 at hn;refine aM bG func13 rfl ?_;refine Rr ?_;refine aH (fun h=>?_) (fun h=>?_)
 ·have h:n<0:=by simpa using h
  refine Rr ?_;refine aP (by rw[decide_eq_false om];rfl) ?_;refine Rr ?_;refine aB nn ⟨?_,rfl,rfl⟩;rw[kY,if_pos h,w64 (x:=n+1) (y:=n+1) rfl ⟨om,om⟩,w64 (x:=0-(n+1)) (y:=-(n+1)) om ⟨om,om⟩]
 ·have h:¬n<0:=by simpa using h
  refine Rr ?_;refine aP (by rw[decide_eq_false om];rfl) ?_;refine Rr ?_;refine aB nn ⟨?_,rfl,rfl⟩;rw[kY,if_neg h]
theorem Fk(l:List Int)(i most:Int)(hl:∀x∈l,i64 x)(hm:1<=most):a8 prog [] 40 [.il 1 (aT l),.int .i64 i,.int .i64 most] (.int .i64 (jM l i most)):=by
 refine aM bG func40 rfl ?_;refine Rr ?_;refine aH (fun h=>?_) (fun h=>?_)
 ·rw[h];refine Rr ?_;refine aB nn ⟨?_,rfl,rfl⟩;rw[jM,if_pos (.inl (by simpa using h))]
 ·have h0:0<=i:=by simpa using h
  rw[h];refine Rr ?_;refine aH (fun h=>?_) (fun h=>?_)
  ·refine Rr ?_;refine aB nn ⟨?_,rfl,rfl⟩;rw[aD] at h;rw[jM,if_pos (.inr (by simpa using h))]
  ·rw[aD] at h;have h1:i<l.length:=by simpa using h
   obtain⟨q,rfl⟩:=Int.eq_ofNat_of_zero_le h0;have hq:q<l.length:=om;refine Rr ?_;refine aC (a:=.int .i64 l[q]) (by rw[Int.toNat_natCast,bF,List.getElem?_eq_getElem hq];rfl) ?_;refine Rr ?_;refine(zW l[q] most (hl _ (List.getElem_mem hq)) hm).go ?_;refine Rr ?_;refine aB nn ⟨?_,rfl,rfl⟩;rw[jM,if_neg om,Int.toNat_natCast,List.getD_eq_getElem?_getD,List.getElem?_eq_getElem hq];rfl
theorem KN(l:List Int)(i j:Int)(hl:∀x∈l,i64 x)(hi:1<=i)(hi':i<=1000)(hj:0<=j)(hj':j<=1000):a8 prog [] 42 [.il 1 (aT l),.int .i64 i,.int .i64 j] (.int .i64 (kidI l i j)):=by
 have hp:=Fk l (3*i+j+2) 1000000 hl om;have hb:=jI (l:=l) (i:=3*i+j+2) (most:=1000000) om;have hk:kidI l i j=if (jM l (3*i+j+2) 1000000).tmod 3=0 then((jM l (3*i+j+2) 1000000).tdiv 3).tmod i else max 0 (i-1-((jM l (3*i+j+2) 1000000).tdiv 3).tmod 3):=rfl
 generalize jM l (3*i+j+2) 1000000=p at hp hb hk;rw[hk];have hd:0<=p.tdiv 3/\p.tdiv 3<=1000000:=by
  rw[Int.tdiv_eq_ediv_of_nonneg hb.1];omega
 have hd3:0<=(p.tdiv 3).tmod 3/\(p.tdiv 3).tmod 3<3:=⟨Int.tmod_nonneg _ hd.1,Int.tmod_lt_of_pos _ om⟩
 refine aM bG func42 rfl ?_;refine Rr ?_;rw[w64 (x:=3*i) (y:=3*i) rfl ⟨om,om⟩,w64 (x:=3*i+j) (y:=3*i+j) rfl ⟨om,om⟩,w64 (x:=3*i+j+2) (y:=3*i+j+2) rfl ⟨om,om⟩];refine hp.go ?_;refine Rr ?_;refine aH (fun h=>?_) (fun h=>?_)
 ·have h:p.tmod 3=0:=by simpa using h
  refine Rr ?_;refine aP (by rw[decide_eq_false om];rfl) ?_;refine Rr ?_;refine aB nn ⟨?_,rfl,rfl⟩;rw[if_pos h,w64 (x:=p.tdiv 3) (y:=p.tdiv 3) rfl ⟨om,om⟩]
 ·have h:¬p.tmod 3=0:=by simpa using h
  refine Rr ?_;refine aB nn ⟨?_,rfl,rfl⟩;rw[if_neg h,w64 (x:=p.tdiv 3) (y:=p.tdiv 3) rfl ⟨om,om⟩,w64 (x:=i-1) (y:=i-1) rfl ⟨om,om⟩,w64 (x:=i-1-(p.tdiv 3).tmod 3) (y:=i-1-(p.tdiv 3).tmod 3) rfl ⟨om,om⟩];congr 1;simp;omega
theorem Mq(k:Int)(h0:0<=k)(h1:k<=1000000):a8 prog [] 41 [.int .i64 k] (bK (Go.Ax.t9 k)):=by
 have hd:0<=k.tdiv 4/\k.tdiv 4<=1000000:=by
  rw[Int.tdiv_eq_ediv_of_nonneg h0];omega
 have hm:0<=k.tmod 4/\k.tmod 4<4:=⟨Int.tmod_nonneg _ h0,Int.tmod_lt_of_pos _ om⟩
 have h9:0<=(k.tdiv 4).tmod 9/\(k.tdiv 4).tmod 9<9:=⟨Int.tmod_nonneg _ hd.1,Int.tmod_lt_of_pos _ om⟩
 have h3:0<=(k.tdiv 4).tmod 3/\(k.tdiv 4).tmod 3<3:=⟨Int.tmod_nonneg _ hd.1,Int.tmod_lt_of_pos _ om⟩
 have hw:IntKind.i64.wrap (k.tdiv 4)=k.tdiv 4:=w64 rfl ⟨om,om⟩;have hv:Go.Ax.t9 k=if k.tmod 4=0 then .mk 0 ((k.tdiv 4).tmod 9-4) [] []
  else if k.tmod 4=1 then .mk 1 ((k.tdiv 4).tmod 2) [] []
  else if k.tmod 4=2 then .mk 3 0 (([[76,101,97,102],[82,101,100],[88]]:List (List UInt8)).getD ((k.tdiv 4).tmod 3).toNat []) []
  else .mk 2 0 [] [.mk 0 ((k.tdiv 4).tmod 3) [] []]:=rfl
 generalize Go.Ax.t9 k=v at hv;have hw9:IntKind.i64.wrap ((k.tdiv 4).tmod 9-4)=(k.tdiv 4).tmod 9-4:=w64 rfl ⟨om,om⟩;refine aM bG func41 rfl ?_;rcases(show k.tmod 4=0∨k.tmod 4=1∨k.tmod 4=2∨k.tmod 4=3 by omega) with e|e|e|e
 ·rw[if_pos e] at hv;refine Rr ?_;rw[e];refine Rr ?_;rw[hw,hw9];exact bU (.agg' (.s (.s (.s (.cons (.nil 4) .nil))))) ⟨by rw[hv];rfl,rfl,rfl⟩
 ·rw[if_neg om,if_pos e] at hv;refine Rr ?_;rw[e];refine Rr ?_;rw[hw];exact bU (.agg' (.s (.s (.s (.cons (.nil 4) .nil))))) ⟨by rw[hv];rfl,rfl,rfl⟩
 ·rw[if_neg om,if_neg om,if_pos e] at hv;refine Rr ?_;rw[e];refine Rr ?_;rw[hw];rcases(show (k.tdiv 4).tmod 3=0∨(k.tdiv 4).tmod 3=1∨(k.tdiv 4).tmod 3=2 by omega) with e3|e3|e3
  all_goals
   rw[e3] at hv ⊢;refine Rr ?_;exact bU (.agg' (.s (.s (.s (.cons (.nil 4) .nil))))) ⟨by rw[hv];rfl,rfl,rfl⟩
 ·rw[if_neg om,if_neg om,if_neg om] at hv;refine Rr ?_;rw[e];refine Rr ?_;rw[hw];exact bU (.agg' (.s (.s (.s (.cons (.fzR rfl rfl (.cons (v5 _ _ _) .nil) rfl) .nil))))) ⟨by rw[hv];rfl,rfl,rfl⟩
end Go.Proofs.YtobknjmfgjaehaaGreatDoor
namespace Go.Ax
open Go
theorem dP{α:Type}{P:List α->Prop}(h0:P [])(h1:∀(l:List α) (x:α),P l->P (l++[x]))(l:List α):P l:=by
 rw[←List.reverse_reverse l]
 induction l.reverse with
 | nil=>exact h0
 | cons a r ih=>rw[List.reverse_cons];exact h1 _ _ ih
structure gW(i:Nat)(x:Nd):Prop where
 ok:qG x
 kind:0<=x.kind/\x.kind<=4
 kids:∀(j:Nat) (k:Int),x.kids[j]? = some k->0<=k/\k<i
 klen:x.kids.length<=65536
 num:dH x=true
def CY(bs:List f6):Prop:=∀b∈bs,b.vals.length<=1024/\∀v∈b.vals,gD v
theorem cD{x:Nd}(h:dH x=true):x.lo<=x.hi/\-4611686018427387904<=x.lo/\x.hi<=4611686018427387904/\x.hi<x.lo+1099511627776:=by
 unfold dH at h;simp only[Bool.and_eq_true,decide_eq_true_eq] at h;exact⟨h.1.1.1.1,h.1.1.1.2,h.1.1.2,h.1.2⟩
theorem sX{rows:List (List a7)}{l:List a7}{r:List a7}(h:r∈fM rows l):∃r'∈rows,∃v∈l,r=r'++[v]:=by
 simp only[fM,List.mem_flatMap,List.mem_map] at h;obtain⟨r',h1,v,h2,rfl⟩:=h;exact⟨r',h1,v,h2,rfl⟩
theorem sT(l:List a7):∀rows:List (List a7),(fM rows l).length=rows.length*l.length
 | []=>by simp[fM]
 | r::rs=>by
  have:=sT l rs;simp only[fM,List.flatMap_cons,List.length_append,List.length_map,List.length_cons,Nat.add_mul,Nat.one_mul] at this ⊢;omega
theorem o0{bs:List f6}(hb:CY bs)(k:Int):(cT bs k).vals.length<=1024/\∀v∈(cT bs k).vals,gD v:=by
 unfold cT;rw[List.getD_eq_getElem?_getD];cases h:bs[k.toNat]? with
 | none=>simp
 | some b=>exact hb b (List.mem_of_getElem? h)
theorem BX{bs:List f6}(hb:CY bs):∀(kids:List Int) (rows out:List (List a7)) (n:Nat),rows.length<=1024->(∀r∈rows,r.length<=n/\∀v∈r,gD v)->d9 bs kids rows=some out->out.length<=1024/\∀r∈out,r.length<=n+kids.length/\∀v∈r,gD v
 | [],rows,out,n,h1,h2,h=>by
  simp only[d9] at h;cases h;exact⟨h1,fun r hr=>⟨by simpa using (h2 r hr).1,(h2 r hr).2⟩⟩
 | k::ks,rows,out,n,h1,h2,h=>by
  simp only[d9] at h;split at h
  ·cases h
  ·rename_i hc;rw[not_or] at hc;have hg:=o0 hb k;obtain⟨a,b⟩:=BX hb ks _ out (n+1) (by rw[sT];omega) (fun r hr=>by
    obtain⟨r',h3,v,h4,rfl⟩:=sX hr;refine⟨by have:=(h2 r' h3).1;simp;omega,fun u hu=>?_⟩;rcases List.mem_append.1 hu with hu|hu
    ·exact(h2 r' h3).2 u hu
    ·simp at hu;rw[hu];exact hg.2 v h4) h
   exact⟨a,fun r hr=>⟨by have:=(b r hr).1;simp;omega,(b r hr).2⟩⟩
theorem Il{name:List UInt8}(hn:name.length<=4294967296){r:List a7}(hr:r.length<=4294967296)(ho:∀v∈r,gD v):gD (c9 name r):=by
 unfold c9;split
 ·exact jR ⟨om,om⟩ ⟨om,om⟩ (by simp) hr (pA ho)
 ·exact jR ⟨om,om⟩ ⟨om,om⟩ hn hr (pA ho)
theorem B2{bs:List f6}:∀(l:List Int) (a:List a7 × Bool),(a.2=false->a.1.length<=1024)->(l.foldl (bJ bs) a).2=false->(l.foldl (bJ bs) a).1.length<=1024
 | [],a,h,h2=>h h2
 | k::r,a,h,h2=>by
  refine B2 r (bJ bs a k) (fun h3=>?_) h2;simp only[bJ,Bool.or_eq_false_iff,decide_eq_false_iff_not] at h3 ⊢;omega
theorem F6{x:Nd}{i:Nat}{bs:List f6}(hx:gW i x)(hb:CY bs):(cR x bs).vals.length<=1024/\∀v∈(cR x bs).vals,gD v:=by
 unfold cR;have hnum:=cD hx.num;split
 ·exact⟨by simp,fun v hv=>by simp at hv;rw[hv];exact hx.ok.value⟩
 ·split
  ·split
   ·simp
   ·refine⟨by simp[fZ];omega,fun v hv=>?_⟩;simp only[fZ,List.mem_map,List.mem_range] at hv;obtain⟨j,hj,rfl⟩:=hv;exact gH ⟨om,om⟩ ⟨om,om⟩
  ·split
   ·unfold nO;split
    ·simp
    ·rename_i rows hr;obtain⟨h1,h2⟩:=BX hb x.kids [[]] rows 0 (by simp) (by simp) hr;refine⟨by have:=pZ (rows.map (c9 x.name));simp at this ⊢;omega,fun v hv=>?_⟩;have:=oK hv;obtain⟨r,hr2,rfl⟩:=List.mem_map.1 this;have h3:=h2 r hr2;have:=hx.klen;exact Il hx.ok.name om h3.2
   ·generalize (if x.kind=4 then x.kids.drop 1 else x.kids)=ks;unfold kI;split
    ·simp
    ·rename_i hm;have hm:(ks.foldl (bJ bs) ([],false)).2=false:=by simpa using hm
     exact⟨B2 _ _ (by simp) hm,(tC hb _ ([],false) 0 (by simp) (by simp)).2⟩
theorem dM(l:List Nd):(aL l).length=l.length:=by
 refine dP (P:=fun l=>(aL l).length=l.length) rfl (fun l x ih=>?_) l;rw[gB];simp[ih]
theorem gU(l:List Nd):(∀(i:Nat) (x:Nd),l[i]? = some x->gW i x)->CY (aL l):=by
 refine dP (P:=fun l=>(∀(i:Nat) (x:Nd),l[i]? = some x->gW i x)->CY (aL l)) (fun _ b hb=>by simp[aL] at hb) (fun l x ih h=>?_) l;have h1:=ih fun i y hy=>h i y (by
  have:=(List.getElem?_eq_some_iff.1 hy).1;rw[List.getElem?_append_left this];exact hy)
 have h2:=h l.length x (by simp);rw[gB];intro b hb;rcases List.mem_append.1 hb with hb|hb
 ·exact h1 b hb
 ·simp at hb;rw[hb];exact F6 h2 h1
theorem Aj:∀(b l r:List Nd),bT b l=0->bT b (l++r)=bT (b++l) r
 | b,[],r,_=>by simp
 | b,y::l,r,h=>by
  simp only[List.cons_append,bT] at h ⊢;split at h
  ·rename_i h1;exact absurd h h1
  ·rename_i h1;rw[if_neg h1,Aj (b++[y]) l r h];simp
theorem g5{l r:List Nd}(h:bT [] (l++r)=0):bT [] l=0:=by
 have key:∀(l b:List Nd),bT b (l++r)=0->bT b l=0:=by
  intro l
  induction l with
  | nil=>intro b _;rfl
  | cons y l ih=>
   intro b h;simp only[List.cons_append,bT] at h ⊢;split at h
   ·rename_i h1;exact absurd h h1
   ·rename_i h1;rw[if_neg h1];exact ih _ h
 exact key l [] h
theorem rX{l r:List Nd}{x:Nd}(h:bT [] l=0)(hs:fS l (aY l) (b9 l) x≠0):bT [] (l++x::r)=fS l (aY l) (b9 l) x:=by
 rw[Aj _ _ _ h];simp only[List.nil_append,bT];rw[if_pos hs]
theorem lI:∀{l m:List a7},dC l m=true->l.length=m.length
 | [],[],_=>rfl
 | a::l,b::m,h=>by
  simp only[dC,Bool.and_eq_true] at h;simp[lI h.2]
 | [],b::m,h=>by simp[dC] at h
 | a::l,[],h=>by simp[dC] at h
structure Dv(i:Nat)(x:Nd):Prop where
 kind:0<=x.kind/\x.kind<=4
 kids:∀(j:Nat) (k:Int),x.kids[j]? = some k->0<=k/\k<i
 num:dH x=true
 klen:x.kind≠4->x.kids.length<=256
 bind:x.kind=4->x.kids.length=x.values.length+1
theorem jP{i:Nat}{x:Nd}(h:eO i x=0):Dv i x:=by
 unfold eO at h;split at h
 ·omega
 ·rename_i hf;split at h
  ·rename_i h1;exact absurd h h1
  ·split at h
   ·omega
   ·rename_i hn;have hn:dH x=true:=by simpa using hn
    have hf:cX i x=true:=by simpa using hf
    unfold cX at hf;simp only[Bool.and_eq_true,Bool.or_eq_true,decide_eq_true_eq] at hf;obtain⟨⟨⟨⟨⟨⟨hu,hk⟩,hki⟩,h2⟩,h3⟩,h4⟩,_⟩:=hf;refine⟨hk,dY.1 hki,hn,fun hne=>?_,fun he=>om⟩;unfold iE at hu;simp only[Bool.and_eq_true,Bool.or_eq_true,decide_eq_true_eq] at hu;rcases(show x.kind=0∨x.kind=1∨x.kind=2∨x.kind=3 by omega) with e|e|e|e
    ·have:=hu.2;omega
    ·have:=hu.2;omega
    ·rcases h2 with h2|h2
     ·omega
     ·exact h2.1.1.2
    ·rcases h3 with h3|h3
     ·omega
     ·exact h3.1
theorem e6{before:List Nd}{ls ss:List Int}{x:Nd}(h:fS before ls ss x=0):eO before.length x=0/\eC ls x<=256/\iY ss x<=1024/\(x.kind=4->eF before x=0):=by
 unfold fS at h;split at h
 ·rename_i h1;exact absurd h h1
 ·rename_i h1;split at h
  ·omega
  ·rename_i h2;rw[not_or] at h2;refine⟨by simpa using h1,om,om,fun e=>?_⟩;rw[if_pos e] at h;exact h
theorem fP{α:Type}{l:List α}{n i:Nat}{x:α}(h:(l.take n)[i]? = some x):l[i]? = some x/\i<n:=by
 rw[List.getElem?_take] at h;split at h
 ·rename_i hi;exact⟨h,hi⟩
 ·cases h
theorem Ir{before:List Nd}{x:Nd}(hg:∀(j:Nat) (y:Nd),before[j]? = some y->gW j y)(h:eF before x=0):x.values.length<=1024:=by
 unfold eF at h;simp only at h;split at h
 ·omega
 ·split at h
  ·rename_i hs;have:=lI hs;have hgl:=gU (before.take ((x.kids.getD 0 0).toNat+1)) fun i y hy=>hg i y (fP hy).1
   have:=(o0 hgl (x.kids.getD 0 0)).1;omega
  ·omega
theorem I8{before:List Nd}{ls ss:List Int}{x:Nd}(hg:∀(j:Nat) (y:Nd),before[j]? = some y->gW j y)(ho:qG x)(h:fS before ls ss x=0):gW before.length x:=by
 obtain⟨h1,h2,h3,h4⟩:=e6 h;have hn:=jP h1;refine⟨ho,hn.kind,hn.kids, ?_,hn.num⟩;by_cases e:x.kind=4
 ·have:=hn.bind e;have:=Ir hg (h4 e);omega
 ·have:=hn.klen e;omega
theorem iR(ns:List Nd)(ho:∀x∈ns,qG x)(h:bT [] ns=0):∀(j:Nat) (x:Nd),ns[j]? = some x->gW j x:=by
 refine dP (P:=fun ns=>(∀x∈ns,qG x)->bT [] ns=0->∀(j:Nat) (x:Nd),ns[j]? = some x->gW j x) (fun _ _ j x hx=>by simp at hx) (fun l x ih ho h=>?_) ns ho h;have h1:=g5 h;have ih:=ih (fun y hy=>ho y (List.mem_append_left _ hy)) h1;have hs:=eT [] l x h1;rw[h] at hs;simp only[List.nil_append] at hs;have hg:=I8 ih (ho x (by simp)) hs.symm;intro j y hy;rcases Nat.lt_or_ge j l.length with hj|hj
 ·rw[List.getElem?_append_left hj] at hy;exact ih j y hy
 ·rw[List.getElem?_append_right hj] at hy;have e:j-l.length=0:=by
   have:=(List.getElem?_eq_some_iff.1 hy).1;simp at this;omega
  rw[e] at hy;simp at hy;subst hy;obtain rfl:j=l.length:=om;exact hg
theorem FC{ls:List Int}{x:Nd}(h:∀y∈ls,0<=y/\y<=1024):0<=eC ls x:=by
 have h1:=(g6 om h x.kids).1;have h2:=(fK om h (dG x)).1;have h3:=(kO om h (x.kids.getD 0 0)).1;unfold eC;split
 ·omega
 ·split
  ·omega
  ·split
   ·exact h1
   ·split
    ·omega
    ·omega
theorem Ew{ls:List Int}{x:Nd}(h:∀y∈ls,0<=y/\y<=1024):0<=iY ls x:=by
 have h1:=(g6 om h x.kids).1;have h2:=(fK om h (dG x)).1;unfold iY;split
 ·omega
 ·split
  ·omega
  ·split
   ·omega
   ·exact h2
theorem gE(ns:List Nd)(h:bT [] ns=0):(∀y∈aY ns,0<=y/\y<=1024)/\(∀y∈b9 ns,0<=y/\y<=1024):=by
 refine dP (P:=fun ns=>bT [] ns=0->(∀y∈aY ns,0<=y/\y<=1024)/\(∀y∈b9 ns,0<=y/\y<=1024)) (fun _=>by simp[aY,b9]) (fun l x ih h=>?_) ns h;have h1:=g5 h;obtain⟨i1,i2⟩:=ih h1;have hs:=eT [] l x h1;rw[h] at hs;simp only[List.nil_append] at hs;obtain⟨_,h2,h3,_⟩:=e6 hs.symm;rw[fR,iV];have n1:=FC (x:=x) i1;have n2:=Ew (x:=x) i2;constructor
 ·intro y hy;rcases List.mem_append.1 hy with hy|hy
  ·exact i1 y hy
  ·simp at hy;subst hy;omega
 ·intro y hy;rcases List.mem_append.1 hy with hy|hy
  ·exact i2 y hy
  ·simp at hy;subst hy;omega
theorem d8(l:List Nd):(aY l).length=l.length:=by
 refine dP (P:=fun l=>(aY l).length=l.length) rfl (fun l x ih=>?_) l;rw[fR];simp[ih]
theorem iA(l:List Nd):(b9 l).length=l.length:=by
 refine dP (P:=fun l=>(b9 l).length=l.length) rfl (fun l x ih=>?_) l;rw[iV];simp[ih]
theorem zQ{a b:Int}(ha:0<=a)(hb:0<b):a.tdiv b<=a:=by
 rw[Int.tdiv_eq_ediv_of_nonneg ha];exact Int.ediv_le_self _ ha
theorem iM{a b:Int}(ha:0<=a)(hb:0<b):0<=a.tmod b/\a.tmod b<b:=⟨Int.tmod_nonneg _ ha,Int.tmod_lt_of_pos _ hb⟩
theorem EC(k:Int)(hk:0<=k):gD (t9 k)/\bC (t9 k)<=2:=by
 have h4:=iM hk (show (0:Int)<4 by omega);have hd:0<=k.tdiv 4:=Int.tdiv_nonneg hk om;have a:=iM hd (show (0:Int)<9 by omega);have b:=iM hd (show (0:Int)<2 by omega);have c:=iM hd (show (0:Int)<3 by omega);unfold t9;split
 ·exact⟨gH ⟨om,om⟩ ⟨om,om⟩,by simp[bC,cE]⟩
 ·split
  ·exact⟨gH ⟨om,om⟩ ⟨om,om⟩,by simp[bC,cE]⟩
  ·split
   ·refine⟨jR ⟨om,om⟩ ⟨om,om⟩ ?_ (by simp) (by simp[uJ]),by simp[bC,cE]⟩;rcases(show ((k.tdiv 4).tmod 3).toNat=0∨((k.tdiv 4).tmod 3).toNat=1∨((k.tdiv 4).tmod 3).toNat=2 by omega) with h|h|h<;>rw[h]<;>simp
   ·refine⟨jR ⟨om,om⟩ ⟨om,om⟩ (by simp) (by simp) ?_,by simp[bC,cE]⟩;simp only[uJ,and_true];exact gH ⟨om,om⟩ ⟨om,om⟩
def vE:List (List UInt8):=[[97],[98],[99],[100]]
structure Ik(x:Nd):Prop where
 ok:qG x
 vals:x.values.length<=1024
 labels:∀s∈x.labels,s∈vE
 seq:x.kind=3->x.kids.length<=3
structure gZ(ns:List Nd):Prop where
 valid:bT [] ns=0
 gen:∀x∈ns,Ik x
theorem mD{kind lo hi:Int}{name:List UInt8}{ws ks:List Int}{ls:List (List UInt8)}{vs:List a7}{v:a7}(h1:i64 kind)(h2:name.length<=1000)(h3:i64 lo)(h4:i64 hi)(h5:ws.length<=1000)(h6:∀w∈ws,i64 w)(h7:ls.length<=1000)(h8:∀s∈ls,s∈vE)
  (h9:vs.length<=1000) (h10:∀v∈vs,gD v/\bC v<=4294967296) (h11:ks.length<=1000) (h12:∀k∈ks,i64 k) (h13:gD v) (h14:bC v<=4294967296)
  (h15:kind=3->ks.length<=3:=by first|(intro h;exact absurd h om)|(intro _;omega)):Ik ⟨kind,name,lo,hi,ws,ls,vs,ks,v⟩:=
 ⟨⟨h1,by simp only;omega,h3,h4,by simp only;omega,h6,by simp only;omega,fun s hs=>by
   have:=h8 s hs;simp[vE] at this;rcases this with rfl|rfl|rfl|rfl<;>simp,by simp only;omega,h10,by simp only;omega,h12,h13,h14⟩,by simp only;omega,h8,h15⟩
theorem Fx(ns:List Nd)(ls ss:List Int)(m:Int):fS ns ls ss ⟨0,[],0,0,[],[],[],[],.mk 0 m [] []⟩=0:=by
 have hv:fG (.mk 0 m [] [])=0:=by simp[fG,b8,c8,cS,lZ,oR,xD,bC,cE]
 have hf:cX (ns.length:Int) ⟨0,[],0,0,[],[],[],[],.mk 0 m [] []⟩=true:=by simp[cX,iE,lV,dN]
 have hn:eO (ns.length:Int) ⟨0,[],0,0,[],[],[],[],.mk 0 m [] []⟩=0:=by
  unfold eO;rw[if_neg (by rw[hf];simp)];simp[nP,dW,hv,dH]
 unfold fS;rw[if_neg (by rw[hn];simp)];simp[eC,iY,bC,cE]
theorem An{bs:List f6}{ss:List Int}:∀(kids:List Int) (rows out:List (List a7)) (S:Int),(∀r∈rows,(cE r:Int)<=S)->(∀k∈kids,∀v∈(cT bs k).vals,(bC v:Int)<=dK ss k)->d9 bs kids rows=some out->∀r∈out,(cE r:Int)<=S+eH ss kids
 | [],rows,out,S,h1,_,h=>by
  simp only[d9] at h;cases h;intro r hr;simpa[eH] using h1 r hr
 | k::ks,rows,out,S,h1,h2,h=>by
  simp only[d9] at h;split at h
  ·cases h
  ·have e:eH ss (k::ks)=dK ss k+eH ss ks:=by simp only[eH,List.foldl_cons];rw[mJ ss ks];simp[eH]
   have ih:=An ks _ out (S+dK ss k) (fun r hr=>by
    obtain⟨r',h3,v,h4,rfl⟩:=sX hr;have a:=h1 r' h3;have b:=h2 k (by simp) v h4;rw[uR];omega) (fun k' hk'=>h2 k' (by simp[hk'])) h
   intro r hr;have:=ih r hr;omega
theorem HT{bs:List f6}:∀(l:List Int) (a:List a7 × Bool),∀v∈(l.foldl (bJ bs) a).1,v∈a.1∨∃k∈l,v∈(cT bs k).vals
 | [],a,v,hv=>.inl hv
 | k::r,a,v,hv=>by
  rcases HT r (bJ bs a k) v hv with h|⟨k',h1,h2⟩
  ·simp only[bJ] at h;rcases List.mem_append.1 (oK h) with h|h
   ·exact .inl h
   ·exact .inr ⟨k,by simp,h⟩
  ·exact .inr ⟨k',by simp[h1],h2⟩
theorem mO{ss:List Int}:∀(l:List Int) (s:Int) (k:Int),k∈l->dK ss k<=l.foldl (fun s k=>max s (dK ss k)) s/\s<=l.foldl (fun s k=>max s (dK ss k)) s
 | a::r,s,k,h=>by
  have mono:∀(l:List Int) (s:Int),s<=l.foldl (fun s k=>max s (dK ss k)) s:=by
   intro l
   induction l with
   | nil=>intro s;simp
   | cons b l ih=>intro s;have:=ih (max s (dK ss b));simp only[List.foldl_cons];omega
  simp only[List.foldl_cons];rcases List.mem_cons.1 h with rfl|h
  ·have:=mono r (max s (dK ss k));omega
  ·have:=mO (ss:=ss) r (max s (dK ss a)) k h;omega
theorem GI{x:Nd}{bs:List f6}{ss:List Int}(hkd:0<=x.kind/\x.kind<=4)(hb:∀k∈x.kids,∀v∈(cT bs k).vals,(bC v:Int)<=dK ss k):∀v∈(cR x bs).vals,(bC v:Int)<=iY ss x:=by
 intro v hv;unfold cR at hv;split at hv
 ·rename_i h0;simp at hv;subst hv;unfold iY;rw[if_pos h0];omega
 ·rename_i h0;split at hv
  ·rename_i h1;split at hv
   ·simp at hv
   ·simp only[fZ,List.mem_map] at hv;obtain⟨j,_,rfl⟩:=hv;unfold iY;rw[if_neg h0,if_pos h1];simp[bC,cE]
  ·rename_i h1;split at hv
   ·rename_i h3;unfold nO at hv;split at hv
    ·simp at hv
    ·rename_i rows hr;obtain⟨r,hr2,rfl⟩:=List.mem_map.1 (oK hv);have:=An x.kids [[]] rows 0 (by simp[cE]) hb hr r hr2;have e:bC (c9 x.name r)=1+cE r:=by unfold c9;split<;>simp[bC]
     unfold iY;rw[if_neg h0,if_neg h1,if_pos h3,e];omega
   ·rename_i h3;have key:∀ks:List Int,(∀k∈ks,k∈x.kids)->v∈(kI bs ks).vals->(bC v:Int)<=cG ss ks:=by
     intro ks hks hv;unfold kI at hv;split at hv
     ·simp at hv
     ·rcases HT ks ([],false) v hv with h|⟨k,h1,h2⟩
      ·simp at h
      ·have:=hb k (hks k h1) v h2;have:=(mO (ss:=ss) ks 0 k h1).1;unfold cG;omega
    have:(bC v:Int)<=cG ss (dG x):=by
     unfold dG;by_cases h4:x.kind=4
     ·rw[if_pos h4] at hv;rw[if_neg om];exact key _ (fun k hk=>List.mem_of_mem_drop hk) hv
     ·rw[if_neg h4] at hv;by_cases h2:x.kind=2
      ·rw[if_pos h2];exact key _ (fun k hk=>hk) hv
      ·omega
    unfold iY;rw[if_neg h0,if_neg h1,if_neg h3];omega
theorem FX{bs:List f6}{b:f6}{k:Int}(hk:0<=k):(k<bs.length->cT (bs++[b]) k=cT bs k)/\(k=bs.length->cT (bs++[b]) k=b):=by
 unfold cT;constructor
 ·intro h;rw[List.getD_eq_getElem?_getD,List.getD_eq_getElem?_getD,List.getElem?_append_left om]
 ·intro h;rw[List.getD_eq_getElem?_getD,List.getElem?_append_right om,show k.toNat-bs.length=0 by omega];rfl
theorem Kg{bs:List Int}{b:Int}{k:Int}(hk:0<=k):(k<bs.length->dK (bs++[b]) k=dK bs k)/\(k=bs.length->dK (bs++[b]) k=b):=by
 unfold dK;constructor
 ·intro h;rw[List.getD_eq_getElem?_getD,List.getD_eq_getElem?_getD,List.getElem?_append_left om]
 ·intro h;rw[List.getD_eq_getElem?_getD,List.getElem?_append_right om,show k.toNat-bs.length=0 by omega];rfl
theorem Gk(ns:List Nd)(hg:∀(j:Nat) (x:Nd),ns[j]? = some x->gW j x):∀(k:Int),0<=k->k<ns.length->∀v∈(cT (aL ns) k).vals,(bC v:Int)<=dK (b9 ns) k:=by
 refine dP (P:=fun ns=>(∀(j:Nat) (x:Nd),ns[j]? = some x->gW j x)->∀(k:Int),0<=k->k<ns.length->∀v∈(cT (aL ns) k).vals,(bC v:Int)<=dK (b9 ns) k) (fun _ k h1 h2=>by simp at h2;omega) (fun l x ih hg k hk0 hk v hv=>?_) ns hg;have hgl:∀(j:Nat) (y:Nd),l[j]? = some y->gW j y:=fun j y hy=>hg j y (by
  have:=(List.getElem?_eq_some_iff.1 hy).1;rw[List.getElem?_append_left this];exact hy)
 have ih:=ih hgl;have hx:=hg l.length x (by simp);rw[gB] at hv;rw[iV];have e1:=FX (bs:=aL l) (b:=cR x (aL l)) hk0;have e2:=Kg (bs:=b9 l) (b:=iY (b9 l) x) hk0;rw[dM] at e1;rw[iA] at e2;rcases(show k<l.length∨k=l.length by simp at hk;omega) with h|h
 ·rw[e1.1 h] at hv;rw[e2.1 h];exact ih k hk0 h v hv
 ·rw[e1.2 h] at hv;rw[e2.2 h];refine GI hx.kind (fun q hq u hu=>?_) v hv;obtain⟨j,hj⟩:=List.getElem?_of_mem hq;obtain⟨q0,q1⟩:=hx.kids j q hj;exact ih q q0 q1 u hu
theorem Fe(ns:List Nd)(ho:∀x∈ns,qG x)(h:bT [] ns=0)(k:Int)(h0:0<=k)(h1:k<ns.length):∀v∈(cT (aL ns) k).vals,bC v<=1024:=by
 intro v hv;have a:=Gk ns (iR ns ho h) k h0 h1 v hv;have b:=(kO (M:=1024) om (gE ns h).2 k).2;omega
theorem gZ.ok{ns:List Nd}(h:gZ ns):∀x∈ns,qG x:=fun x hx=>(h.gen x hx).ok
theorem gZ.good{ns:List Nd}(h:gZ ns):∀(j:Nat) (x:Nd),ns[j]? = some x->gW j x:=iR ns h.ok h.valid
theorem gZ.snoc{ns:List Nd}{x:Nd}(h:gZ ns)(hl:ns.length<=1000)(hx:Ik x)(hv:cC (ns++[x])=0):gZ (ns++[x]):=by
 unfold cC at hv;rw[if_neg (by simp;omega)] at hv;refine⟨hv,fun y hy=>?_⟩;rcases List.mem_append.1 hy with hy|hy
 ·exact h.gen y hy
 ·simp at hy;rw[hy];exact hx
theorem gZ.leaf{ns:List Nd}(h:gZ ns){m:Int}(hm:i64 m):gZ (ns++[⟨0,[],0,0,[],[],[],[],.mk 0 m [] []⟩]):=by
 refine⟨?_,fun y hy=>?_⟩
 ·rw[eT [] ns _ h.valid];exact Fx _ _ _ _
 ·rcases List.mem_append.1 hy with hy|hy
  ·exact h.gen y hy
  ·simp at hy;rw[hy];have h0:i64 0:=⟨om,om⟩
   exact mD h0 (by simp) h0 h0 (by simp) (by simp) (by simp) (by simp) (by simp) (by simp) (by simp) (by simp) (gH h0 hm) (by simp[bC,cE])
def eA(a b:List a7):List a7:=match a,b with
 | [],b=>b
 | a,[]=>a
 | x::l,y::m=>if bW x y<0 then x::eA l (y::m) else if bW x y=0 then x::eA l m else y::eA (x::l) m
termination_by a.length+b.length
theorem Ay(b:List a7):eA [] b=b:=by rw[eA]
theorem D9(a:List a7):eA a []=a:=by
 cases a with
 | nil=>rw[eA]
 | cons x l=>rw[eA];simp
theorem ET(x y:a7)(l m:List a7):eA (x::l) (y::m)=if bW x y<0 then x::eA l (y::m) else if bW x y=0 then x::eA l m else y::eA (x::l) m:=by rw[eA]
mutual
theorem ED:∀(a b:a7),bW a b=0->a=b
 | .mk k n s ks,.mk k' n' s' ks',h=>by
  simp only[bW,andThen] at h;split at h
  ·rename_i h1;split at h
   ·rename_i h2;split at h
    ·rename_i h3;have e1:k=k':=Decidable.byContradiction fun e=>sR e h1
     have e2:n=n':=Decidable.byContradiction fun e=>sR e h2
     rw[e1,e2,mK h3,JV ks ks' h]
    ·rename_i h3;exact absurd h h3
   ·rename_i h2;exact absurd h h2
  ·rename_i h1;exact absurd h h1
theorem JV:∀(l m:List a7),fC l m=0->l=m
 | [],[],_=>rfl
 | [],_::_,h=>by simp[fC] at h
 | _::_,[],h=>by simp[fC] at h
 | a::l,b::m,h=>by
  simp only[fC,andThen] at h;split at h
  ·rename_i h1;rw[ED a b h1,JV l m h]
  ·rename_i h1;exact absurd h h1
end
theorem BU(a:a7):¬bW a a<0:=by rw[(iB a).refl];omega
theorem DJ:∀{a b:List a7},kL a->kL b->(∀x,x∈a↔x∈b)->a=b
 | [],[],_,_,_=>rfl
 | [],y::m,_,_,h=>by have:=(h y).2 (by simp);simp at this
 | x::l,[],_,_,h=>by have:=(h x).1 (by simp);simp at this
 | x::l,y::m,h1,h2,h=>by
  unfold kL at h1 h2;rw[List.pairwise_cons] at h1 h2;have e:x=y:=by
   rcases List.mem_cons.1 ((h x).1 (by simp)) with e|e
   ·exact e
   ·rcases List.mem_cons.1 ((h y).2 (by simp)) with e'|e'
    ·exact e'.symm
    ·have a1:=h2.1 x e;have a2:=h1.1 y e';have:=Ee a1 (by omega:bW x y<=0);exact absurd this (BU y)
  subst e;congr 1;refine DJ h1.2 h2.2 fun z=>?_
  constructor
  ·intro hz;rcases List.mem_cons.1 ((h z).1 (by simp[hz])) with e|e
   ·subst e;exact absurd (h1.1 z hz) (BU z)
   ·exact e
  ·intro hz;rcases List.mem_cons.1 ((h z).2 (by simp[hz])) with e|e
   ·subst e;exact absurd (h2.1 z hz) (BU z)
   ·exact e
theorem FM:∀(l:List a7) (v x:a7),x∈rQ l v↔x=v∨x∈l
 | [],v,x=>by simp[rQ,dL]
 | a::r,v,x=>by
  rw[Bu];split
  ·split
   ·rename_i h;have e:=ED a v (by simpa using h);subst e;constructor
    ·intro h;exact .inr h
    ·rintro(rfl|h)
     ·simp
     ·exact h
   ·simp
  ·simp only[List.mem_cons,FM r v x];constructor
   ·rintro(h|h|h)
    ·exact .inr (.inl h)
    ·exact .inl h
    ·exact .inr (.inr h)
   ·rintro(h|h|h)
    ·exact .inr (.inl h)
    ·exact .inl h
    ·exact .inr (.inr h)
theorem mM(l:List a7)(x:a7):x∈dV l↔x∈l:=by
 refine dP (P:=fun l=>x∈dV l↔x∈l) (by simp[dV]) (fun l a ih=>?_) l;rw[nE,FM,ih];simp only[List.mem_append,List.mem_singleton];constructor
 ·rintro(h|h)
  ·exact .inr h
  ·exact .inl h
 ·rintro(h|h)
  ·exact .inr h
  ·exact .inl h
theorem DL{l:List a7}(h:kL l):dV l=l:=DJ (s7 l) h (mM l)
theorem mV(a b:List a7)(x:a7):x∈eA a b↔x∈a∨x∈b:=by
 fun_induction eA a b with
 | case1 b=>simp
 | case2 a h=>simp
 | case3 y l z m h ih=>simp only[List.mem_cons,ih];simp only[or_assoc]
 | case4 y l z m h1 h2 ih=>
  have:=ED y z h2;subst this;simp only[List.mem_cons,ih];constructor
  ·rintro(h|h|h)
   ·exact .inl (.inl h)
   ·exact .inl (.inr h)
   ·exact .inr (.inr h)
  ·rintro((h|h)|(h|h))
   ·exact .inl h
   ·exact .inr (.inl h)
   ·exact .inl h
   ·exact .inr (.inr h)
 | case5 y l z m h1 h2 ih=>
  simp only[List.mem_cons,ih];constructor
  ·rintro(h|(h|h)|h)
   ·exact .inr (.inl h)
   ·exact .inl (.inl h)
   ·exact .inl (.inr h)
   ·exact .inr (.inr h)
  ·rintro((h|h)|(h|h))
   ·exact .inr (.inl (.inl h))
   ·exact .inr (.inl (.inr h))
   ·exact .inl h
   ·exact .inr (.inr h)
theorem AP(a b:List a7):kL a->kL b->kL (eA a b):=by
 fun_induction eA a b with
 | case1 b=>intro _ h;exact h
 | case2 a h=>intro h _;exact h
 | case3 y l z m h ih=>
  intro h1 h2;unfold kL at h1 h2 ⊢;have h1':=List.pairwise_cons.1 h1;have h2':=List.pairwise_cons.1 h2;refine List.pairwise_cons.2 ⟨fun x hx=>?_,ih h1'.2 h2⟩;rcases(mV _ _ _).1 hx with hx|hx
  ·exact h1'.1 x hx
  ·rcases List.mem_cons.1 hx with rfl|hx
   ·exact h
   ·have:=h2'.1 x hx;exact Ee h om
 | case4 y l z m hn he ih=>
  intro h1 h2;unfold kL at h1 h2 ⊢;have h1':=List.pairwise_cons.1 h1;have h2':=List.pairwise_cons.1 h2;have:=ED y z he;subst this;refine List.pairwise_cons.2 ⟨fun x hx=>?_,ih h1'.2 h2'.2⟩;rcases(mV _ _ _).1 hx with hx|hx
  ·exact h1'.1 x hx
  ·exact h2'.1 x hx
 | case5 y l z m hn he ih=>
  intro h1 h2;unfold kL at h1 h2 ⊢;have h1':=List.pairwise_cons.1 h1;have h2':=List.pairwise_cons.1 h2;have hzy:=HV (a:=y) (b:=z) om;refine List.pairwise_cons.2 ⟨fun x hx=>?_,ih h1 h2'.2⟩;rcases(mV _ _ _).1 hx with hx|hx
  ·rcases List.mem_cons.1 hx with rfl|hx
   ·exact hzy
   ·have:=h1'.1 x hx;exact Ee hzy om
  ·exact h2'.1 x hx
theorem Dz{a b:List a7}(h1:kL a)(h2:kL b):eA a b=dV (a++b):=
 DJ (AP a b h1 h2) (s7 _) fun x=>by rw[mV,mM,List.mem_append]
theorem Ad:∀(r l:List Nd),∃m,aL (l++r)=aL l++m
 | [],l=>⟨[],by simp⟩
 | x::r,l=>by
  obtain⟨m,hm⟩:=Ad r (l++[x]);refine⟨cR x (aL l)::m, ?_⟩;have e:l++x::r=l++[x]++r:=by simp
  rw[e,hm,gB];simp
theorem Lc{a b:List f6}{k:Int}(h0:0<=k)(h:k<a.length):cT (a++b) k=cT a k:=by
 unfold cT;rw[List.getD_eq_getElem?_getD,List.getD_eq_getElem?_getD,List.getElem?_append_left om]
theorem iS{ns:List Nd}{n:Nat}{k:Int}(h0:0<=k)(h:k<n)(hn:n<=ns.length):cT (aL (ns.take n)) k=cT (aL ns) k:=by
 obtain⟨m,hm⟩:=Ad (ns.drop n) (ns.take n);rw[List.take_append_drop] at hm;rw[hm,Lc h0 (by rw[dM,List.length_take];omega)]
theorem BP{b1 b2:List f6}{l:List Int}(h:∀k∈l,cT b1 k=cT b2 k):kI b1 l=kI b2 l:=by
 have:∀(l:List Int) (a:List a7 × Bool),(∀k∈l,cT b1 k=cT b2 k)->l.foldl (bJ b1) a=l.foldl (bJ b2) a:=by
  intro l
  induction l with
  | nil=>intro a _;rfl
  | cons k r ih=>
   intro a h;simp only[List.foldl_cons];have e:bJ b1 a k=bJ b2 a k:=by unfold bJ;rw[h k (by simp)]
   rw[e];exact ih _ fun q hq=>h q (by simp[hq])
 unfold kI;rw[this l _ h]
theorem yQ{b1 b2:List f6}:∀(l:List Int) (rows:List (List a7)),(∀k∈l,cT b1 k=cT b2 k)->d9 b1 l rows=d9 b2 l rows
 | [],rows,_=>rfl
 | k::r,rows,h=>by
  simp only[d9,h k (by simp)];split
  ·rfl
  ·exact yQ r _ fun q hq=>h q (by simp[hq])
theorem yS{b1 b2:List f6}{x:Nd}(h:∀k∈x.kids,cT b1 k=cT b2 k):cR x b1=cR x b2:=by
 unfold cR;split
 ·rfl
 ·split
  ·rfl
  ·split
   ·unfold nO;rw[yQ x.kids _ h]
   ·split
    ·exact BP fun k hk=>h k (List.mem_of_mem_drop hk)
    ·exact BP h
theorem A9{ns:List Nd}(hg:∀(j:Nat) (x:Nd),ns[j]? = some x->gW j x){i:Nat}{x:Nd}(hx:ns[i]? = some x):cT (aL ns) i=cR x (aL ns):=by
 obtain⟨hi,he⟩:=List.getElem?_eq_some_iff.1 hx;have e1:cT (aL (ns.take (i+1))) i=cT (aL ns) i:=iS om om om;rw[←e1,List.take_succ_eq_append_getElem hi,gB,he];rw[(FX (b:=cR x (aL (ns.take i))) (show (0:Int)<=i by omega)).2 (by rw[dM,List.length_take];omega)];refine yS fun k hk=>?_
 obtain⟨j,hj⟩:=List.getElem?_of_mem hk;obtain⟨h0,h1⟩:=(hg i x hx).kids j k hj;exact iS h0 h1 om
theorem x8:∀{a b:List a7} {x y:a7},a.length=b.length->fC (a++[x]) (b++[y])=andThen (fC a b) (bW x y)
 | [],[],x,y,_=>by
  simp only[List.nil_append,fC,andThen];split
  ·rename_i h;rw[h];rfl
  ·rfl
 | [],_::_,_,_,h=>by simp at h
 | _::_,[],_,_,h=>by simp at h
 | a::l,b::m,x,y,h=>by
  simp only[List.cons_append,fC];rw[x8 (by simpa using h)];unfold andThen;repeat' split
  all_goals first|rfl|omega
def KO(n:Nat)(rows:List (List a7)):Prop:=(∀r∈rows,r.length=n)/\rows.Pairwise fun a b=>fC a b<0
theorem II{n:Nat}{rows:List (List a7)}{l:List a7}(h:KO n rows)(hl:kL l):KO (n+1) (fM rows l):=by
 obtain⟨h1,h2⟩:=h;refine⟨fun r hr=>?_, ?_⟩
 ·obtain⟨r',h3,v,_,rfl⟩:=sX hr;simp[h1 r' h3]
 ·unfold fM
  induction rows with
  | nil=>simp
  | cons a rs ih=>
   rw[List.pairwise_cons] at h2;rw[List.flatMap_cons,List.pairwise_append];refine⟨?_,ih (fun r hr=>h1 r (by simp[hr])) h2.2, ?_⟩
   ·rw[List.pairwise_map];refine hl.imp fun {x y} hxy=>?_
    rw[x8 rfl,(xI a).refl];simpa[andThen] using hxy
   ·intro p hp q hq;obtain⟨v,_,rfl⟩:=List.mem_map.1 hp;obtain⟨r',h3,u,_,rfl⟩:=sX (rows:=rs) (l:=l) hq;have:=h2.1 r' h3;rw[x8 (by rw[h1 a (by simp),h1 r' (by simp[h3])])];unfold andThen;split
    ·omega
    ·exact this
theorem B1{bs:List f6}(hb:∀b∈bs,kL b.vals):∀(kids:List Int) (n:Nat) (rows out:List (List a7)),KO n rows->d9 bs kids rows=some out->KO (n+kids.length) out
 | [],n,rows,out,h,h2=>by
  simp only[d9] at h2;cases h2;exact h
 | k::ks,n,rows,out,h,h2=>by
  simp only[d9] at h2;split at h2
  ·cases h2
  ·have hs:kL (cT bs k).vals:=by
    unfold cT;rw[List.getD_eq_getElem?_getD];cases e:bs[k.toNat]? with
    | none=>simp[kL]
    | some b=>exact hb b (List.mem_of_getElem? e)
   have:=B1 hb ks (n+1) _ out (II h hs) h2;simp only[List.length_cons];rw[show n+(ks.length+1)=n+1+ks.length by omega];exact this
theorem KK(name:List UInt8)(a b:List a7):bW (c9 name a) (c9 name b)=fC a b:=by
 unfold c9;split<;>simp[bW,(jA _).refl,(oQ _).refl,andThen]
theorem KZ{n:Nat}{rows:List (List a7)}(name:List UInt8)(h:KO n rows):kL (rows.map (c9 name)):=by
 unfold kL;rw[List.pairwise_map];exact h.2.imp fun {a b} h=>by rw[KK];exact h
theorem JC(lo hi:Int):kL (fZ lo hi):=by
 unfold kL fZ;rw[List.pairwise_map];refine List.pairwise_lt_range.imp fun {i j} h=>?_
 rw[Jg rfl om];rw[if_pos om];omega
theorem Ie{x:Nd}{bs:List f6}:kL (cR x bs).vals:=by
 unfold cR;split
 ·simp[kL]
 ·split
  ·split
   ·simp[kL]
   ·exact JC _ _
  ·split
   ·unfold nO;split
    ·simp[kL]
    ·exact s7 _
   ·generalize (if x.kind=4 then x.kids.drop 1 else x.kids)=ks;unfold kI;split
    ·simp[kL]
    ·have:∀(l:List Int) (a:List a7 × Bool),kL a.1->kL (l.foldl (bJ bs) a).1:=by
      intro l
      induction l with
      | nil=>intro a h;exact h
      | cons k r ih=>intro a _;exact ih _ (s7 _)
     exact this _ _ (by simp[kL])
theorem BV(ns:List Nd):∀b∈aL ns,kL b.vals:=by
 refine dP (P:=fun ns=>∀b∈aL ns,kL b.vals) (by simp[aL]) (fun l x ih=>?_) ns;rw[gB];intro b hb;rcases List.mem_append.1 hb with hb|hb
 ·exact ih b hb
 ·simp at hb;rw[hb];exact Ie
theorem Lq{bs:List f6}(hb:∀b∈bs,kL b.vals)(k:Int):kL (cT bs k).vals:=by
 unfold cT;rw[List.getD_eq_getElem?_getD];cases h:bs[k.toNat]? with
 | none=>simp[kL]
 | some b=>exact hb b (List.mem_of_getElem? h)
theorem JD{bs:List f6}(hb:∀b∈bs,kL b.vals){x:Nd}{rows:List (List a7)}(h:d9 bs x.kids [[]]=some rows):nO bs x=⟨rows.map (c9 x.name),false⟩:=by
 unfold nO;rw[h];simp only;rw[DL (KZ _ (B1 hb x.kids 0 [[]] rows ⟨by simp,by simp⟩ h))]
def rowAt:List (List a7)->Nat->List a7
 | [],_=>[]
 | l::r,k=>rowAt r (k/l.length)++(l[k%l.length]?).toList
def oN:List (List a7)->List (List a7)
 | []=>[[]]
 | l::r=>fM (oN r) l
def iK:List (List a7)->Nat
 | []=>1
 | l::r=>iK r*l.length
theorem xN:∀ls:List (List a7),(oN ls).length=iK ls
 | []=>rfl
 | l::r=>by rw[oN,sT,iK,xN r]
theorem Cd(l:List a7):∀(rows:List (List a7)) (k:Nat) (a:List a7) (v:a7),rows[k/l.length]? = some a->l[k%l.length]? = some v->(fM rows l)[k]? = some (a++[v])
 | [],k,a,v,h,_=>by simp at h
 | r::rs,k,a,v,h,hv=>by
  have hpos:0<l.length:=by
   rcases Nat.eq_zero_or_pos l.length with h0|h0
   ·have:l=[]:=List.length_eq_zero_iff.1 h0;subst this;simp at hv
   ·exact h0
  unfold fM;rw[List.flatMap_cons];rcases Nat.lt_or_ge k l.length with hk|hk
  ·rw[List.getElem?_append_left (by simpa using hk)];rw[Nat.div_eq_of_lt hk] at h;rw[Nat.mod_eq_of_lt hk] at hv;simp at h;subst h;simp[hv]
  ·rw[List.getElem?_append_right (by simpa using hk),List.length_map];have e1:k/l.length=(k-l.length)/l.length+1:=by
    conv=>lhs;rw[show k=(k-l.length)+l.length by omega]
    exact Nat.add_div_right _ hpos
   have e2:k%l.length=(k-l.length)%l.length:=(Nat.mod_eq_sub_mod hk)
   rw[e1] at h;rw[e2] at hv;exact Cd l rs (k-l.length) a v (by simpa using h) hv
theorem CC:∀(ls:List (List a7)) (k:Nat),k<iK ls->(oN ls)[k]? = some (rowAt ls k)
 | [],k,h=>by
  simp[iK] at h;subst h;rfl
 | l::r,k,h=>by
  simp only[iK] at h;have hpos:0<l.length:=by
   rcases Nat.eq_zero_or_pos l.length with h0|h0
   ·rw[h0] at h;simp at h
   ·exact h0
  have h1:k/l.length<iK r:=Nat.div_lt_of_lt_mul (by rw[Nat.mul_comm];exact h);have h2:=Nat.mod_lt k hpos;have e:=List.getElem?_eq_getElem h2;rw[oN,rowAt,e];exact Cd l _ k _ _ (CC r _ h1) e
theorem B9{bs:List f6}:∀(kids:List Int) (ls:List (List a7)),iK ls<=1024 ->
  d9 bs kids (oN ls)=if (kids.foldl (fun(a:Nat × Bool) k=>(a.1*(cT bs k).vals.length,a.2 || (cT bs k).many || decide (1024<a.1*(cT bs k).vals.length))) (iK ls,false)).2 then none
   else some (oN (kids.reverse.map (fun k=>(cT bs k).vals)++ls))
 | [],ls,h=>by simp[d9]
 | k::r,ls,h=>by
  have stay:∀(l:List Int) (n:Nat),(l.foldl (fun(a:Nat × Bool) k=>(a.1*(cT bs k).vals.length,a.2 || (cT bs k).many || decide (1024<a.1*(cT bs k).vals.length))) (n,true)).2=true:=by
   intro l
   induction l with
   | nil=>intro n;rfl
   | cons q l ih=>intro n;simp only[List.foldl_cons,Bool.true_or];exact ih _
  simp only[d9,List.foldl_cons,xN,Bool.false_or];by_cases hc:(cT bs k).many=true∨1024<iK ls*(cT bs k).vals.length
  ·have e:((cT bs k).many || decide (1024<iK ls*(cT bs k).vals.length))=true:=by simpa using hc
   rw[if_pos hc,e,if_pos (stay _ _)]
  ·have e:((cT bs k).many || decide (1024<iK ls*(cT bs k).vals.length))=false:=by
    rw[not_or] at hc;simp at hc ⊢;exact hc
   rw[if_neg hc,e];rw[not_or] at hc;have:=B9 (bs:=bs) r ((cT bs k).vals::ls) (by simp only[iK];omega);simp only[oN,iK] at this;rw[this];simp[List.append_assoc]
theorem xH(a:a7):bW a a=0:=(iB a).refl
theorem jC{l:List a7}(h:kL l){x:a7}(hx:x∈l):∃k,dL l x=(k,true)/\k<l.length/\l[k]? = some x:=by
 obtain⟨k,hk,rfl⟩:=List.getElem_of_mem hx;have hg:l[k]? = some l[k]:=List.getElem?_eq_getElem hk;refine⟨k, ?_,hk,hg⟩;rw[rH (Nat.le_of_lt hk) (fun p a hp ha=>kL.get h hp ha hg) (fun a ha=>by rw[hg] at ha;cases ha;rw[xH];omega)];unfold DZ;rw[hg];simp[xH]
def Ov:List Int->List Int->Int
 | [],[]=>0
 | [],_::_=>-1
 | _::_,[]=>1
 | a::asz,b::bs=>andThen (oW a b) (Ov asz bs)
def Ps(a b:List Int):Int:=andThen (oW (a.length:Int) (b.length:Int)) (Ov a b)
def PH(l:List (List Int)):Prop:=l.Pairwise fun a b=>Ps a b<0
theorem PH.get{l:List (List Int)}(h:PH l){i j:Nat}{a b:List Int}(hij:i<j)(ha:l[i]? = some a)(hb:l[j]? = some b):Ps a b<0:=by
 obtain⟨hi,rfl⟩:=List.getElem?_eq_some_iff.1 ha;obtain⟨hj,rfl⟩:=List.getElem?_eq_some_iff.1 hb;exact List.pairwise_iff_getElem.1 h i j hi hj hij
end Go.Ax
