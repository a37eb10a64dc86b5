/- A part of the proof. -/
import Derived.Test.YtobknjmfgjaehaaGreatDoorAx12
set_option linter.unusedVariables false
set_option linter.unusedSimpArgs false
set_option linter.unusedSectionVars false
namespace Go.Proofs.YtobknjmfgjaehaaGreatDoor
open Go Go.Ax Go.Proofs Tryz
set_option maxRecDepth 100000
set_option maxHeartbeats 8000000
theorem Ob(s:List UInt8)(hs:s.length<=4294967296):a8 prog [] 152 [.str s] (.bool (eG s)):=by
  refine aM bG func152 rfl ?_;refine Rr ?_;refine aH (fun h=>?_) (fun h=>?_)
  · rw[h]
    refine Rr ?_;refine aB nn ⟨?_,rfl,rfl⟩;rw[rW (by simp at h;rw[h];simp)]
  have h1:1<=s.length:=by
    rcases Nat.eq_zero_or_pos s.length with h'|h'
    · rw[h'] at h;simp at h
    · exact h'
  rw[h];refine Rr ?_;refine aH (fun h=>?_) (fun h=>?_)
  · rw[h]
    refine Rr ?_;refine aB nn ⟨?_,rfl,rfl⟩;rw[o9 (by simp at h;omega)]
  have h2:s.length<=16:=by simp at h;omega
  rw[h];obtain⟨a,ha⟩:∃a,s[0]? = some a:=⟨s[0],by simp⟩
  refine Rr ?_;refine aC ha ?_;refine Rr ?_;refine aH (fun h=>?_) (fun h=>?_)
  · rw[h]
    refine Rr ?_;refine aB nn ⟨?_,rfl,rfl⟩;rw[iT ha (by simp[lY] at *;omega)]
  have h3:65<=(a.toNat:Int):=by simpa using h
  rw[h];refine Rr ?_;refine aC ha ?_;refine Rr ?_;refine aH (fun h=>?_) (fun h=>?_)
  · refine Rr ?_
    refine aB nn ⟨?_,rfl,rfl⟩;rw[iT ha (by simp[lY] at *;omega)]
  have h4:(a.toNat:Int)<=90:=by simpa using h
  refine Rr ?_;refine a9.at bG (fun i:Nat=>i<=s.length/\∀j c,j<i->s[j]? = some c->tO c.toNat=true)
    (fun i=>⟨[(0,.str s),(3,.int .i64 i)],[],0,59⟩) (fun i=>s.length-i) 0 [] ⟨by simp,by simp⟩
    (cL ⟨aF,aF,trivial⟩) ?_
  rintro i ⟨hi,hall⟩;refine Rr ?_;refine aH (fun h=>?_) (fun h=>?_)
  · have hlt:i<s.length:=by simpa using h
    obtain⟨c,hc⟩:∃c,s[i]? = some c:=⟨s[i],by simp[hlt]⟩
    have hc':s[(i:Int).toNat]? = some c:=by rw[Int.toNat_natCast];exact hc
    refine Rr ?_;refine aC hc' ?_;refine Rr ?_;repeat' (refine aH (fun h=>?_) (fun h=>?_)<;>((try rw[h]);refine Rr ?_))
    all_goals first
      | (refine aB nn ⟨?_,rfl,rfl⟩
         rw[uZ hc (by rw[Bool.eq_false_iff];simp[tO] at *;omega)])
      | (refine .mk (i+1) [] ⟨om,fun j c2 hj hc2=>?_⟩ (cL ⟨aF,⟨_,rfl,.w64 om ⟨om,om⟩⟩,trivial⟩) om
         rcases Nat.lt_or_ge j i with hj'|hj'
         · exact hall j c2 hj' hc2
         · have hji:j=i:=om
           rw[hji,hc] at hc2;cases hc2;simp[tO] at *;omega)
  · refine Rr ?_
    refine aB nn ⟨?_,rfl,rfl⟩;have hk:i=s.length:=by simp at h;omega
    rw[u9 ha h2 (by simp[lY];omega) fun j c hc=>hall j c (by rw[hk];exact(List.getElem?_eq_some_iff.1 hc).1) hc]
theorem MQ(x:Nd):a8 prog [] 151 [cH x] (.bool (iE x)):=by
 obtain⟨kind,name,lo,hi,ws,ls,vals,kids,⟨vk,vn,vs,vks⟩⟩:=x;refine aM bG func151 rfl ?_;rcases(show kind=0∨kind=1∨kind=2∨kind=3∨kind=4∨(kind≠0/\kind≠1/\kind≠2/\kind≠3/\kind≠4) by omega) with rfl|rfl|rfl|rfl|rfl|hk
 all_goals
  refine Rr ?_;repeat' (refine aH (fun h=>?_) (fun h=>?_)<;>((try rw[h]);refine Rr ?_))
 all_goals
  refine aB nn ⟨?_,rfl,rfl⟩;congr 1;rw[Bool.eq_iff_iff];simp_all[iE,AG,aA,aD,bZ,List.length_pos_iff]
theorem K9(x:Nd)(hx:qG x):a8 prog [] 114 [cH x] (.bool (dH x)):=by
 have b1:=hx.lo;have b2:=hx.hi;have b3:=hx.weights;clear hx;obtain⟨kind,name,lo,hi,ws,ls,vals,kids,⟨vk,vn,vs,vks⟩⟩:=x;simp only[i64] at b1 b2 b3;have hnum:dH ⟨kind,name,lo,hi,ws,ls,vals,kids,.mk vk vn vs vks⟩=(decide (lo<=hi) && decide (-4611686018427387904<=lo) && decide (hi<=4611686018427387904) && decide (hi<lo+1099511627776) && ws.all fun w=>decide (1<=w) && decide (w<=1000)):=rfl;generalize dH ⟨kind,name,lo,hi,ws,ls,vals,kids,.mk vk vn vs vks⟩=res at hnum;have hF:∀P:Prop,(res=true->P)->(¬P)->res=false:=fun P h1 h2=>by
  cases hr:res with
  | false=>rfl
  | true=>exact absurd (h1 hr) h2
 refine aM bG func114 rfl ?_;refine Rr ?_;refine aH (fun h=>?_) (fun h=>?_)
 ·rw[h];refine Rr ?_;refine aB nn ⟨?_,rfl,rfl⟩;rw[hF (lo<=hi) (by intro e;rw[hnum] at e;simp at e;omega) (by simp at h;omega)]
 have h1:lo<=hi:=by simpa using h
 rw[h];refine Rr ?_;refine aH (fun h=>?_) (fun h=>?_)
 ·rw[h];refine Rr ?_;refine aB nn ⟨?_,rfl,rfl⟩;rw[hF (-4611686018427387904<=lo) (by intro e;rw[hnum] at e;simp at e;omega) (by simp at h;omega)]
 have h2 : -4611686018427387904<=lo:=by simpa using h
 rw[h];refine Rr ?_;refine aH (fun h=>?_) (fun h=>?_)
 ·rw[h];refine Rr ?_;refine aB nn ⟨?_,rfl,rfl⟩;rw[hF (hi<=4611686018427387904) (by intro e;rw[hnum] at e;simp at e;omega) (by simp at h;omega)]
 have h3:hi<=4611686018427387904:=by simpa using h
 rw[h];have hw:IntKind.i64.wrap (lo+1099511627776)=lo+1099511627776:=w64 rfl ⟨om,om⟩;refine Rr ?_;rw[hw];refine aH (fun h=>?_) (fun h=>?_)
 ·refine Rr ?_;refine aB nn ⟨?_,rfl,rfl⟩;rw[hF (hi<lo+1099511627776) (by intro e;rw[hnum] at e;simp at e;omega) (by simp at h;omega)]
 have h4:hi<lo+1099511627776:=by simpa using h
 refine Rr ?_;refine a9.at bG (fun k:Nat=>k<=ws.length/\∀j w,j<k->ws[j]? = some w->1<=w/\w<=1000)
  (fun k=>⟨[(1,.ptr 0 0 0),(3,.int .i64 k)],[(0,.row 83 12 [cH ⟨kind,name,lo,hi,ws,ls,vals,kids,.mk vk vn vs vks⟩])],1,48⟩) (fun k=>ws.length-k) 0 [(0,0)] ⟨by simp,by simp⟩
  (aE _ rfl ⟨aJ 0 (.cons (a6 _) .nil),trivial⟩ ⟨aK,aF,trivial⟩) ?_
 rintro k ⟨hk,hall⟩;refine Rr ?_;refine aH (fun h=>?_) (fun h=>?_)
 ·have hlt:k<ws.length:=by rw[aD] at h;simpa using h
  have e1:(aT ws)[(k:Int).toNat]? = some (.int .i64 ws[k]):=by rw[Int.toNat_natCast,bF,List.getElem?_eq_getElem hlt];rfl
  have hg:ws[k]? = some ws[k]:=List.getElem?_eq_getElem hlt;generalize ws[k]=w at e1 hg;have hbad:(1<=w/\w<=1000->False)->res=false:=fun hb=>hF (1<=w/\w<=1000) (by
   intro e;rw[hnum] at e;simp only[Bool.and_eq_true,List.all_eq_true,decide_eq_true_eq] at e;exact e.2 w (List.mem_of_getElem? hg)) hb
  refine Rr ?_;refine aC e1 ?_;refine Rr ?_;refine aH (fun h=>?_) (fun h=>?_)
  ·rw[h];refine Rr ?_;refine aB nn ⟨?_,rfl,rfl⟩;rw[hbad (by simp at h;omega)]
  ·have g1:1<=w:=by simpa using h
   rw[h];refine Rr ?_;refine aC e1 ?_;refine Rr ?_;refine aH (fun h=>?_) (fun h=>?_)
   ·refine Rr ?_;refine aB nn ⟨?_,rfl,rfl⟩;rw[hbad (by simp at h;omega)]
   ·have g2:w<=1000:=by simpa using h
    refine Rr ?_;refine .mk (k+1) [(0,0)] ⟨om,fun j w2 hj hw2=>?_⟩ (aE _ rfl ⟨aJ 0 (.cons (a6 _) .nil),trivial⟩ ⟨aK,⟨_,rfl,.w64 om ⟨om,om⟩⟩,trivial⟩) om;rcases Nat.lt_or_ge j k with hj'|hj'
    ·exact hall j w2 hj' hw2
    ·have hjk:j=k:=om;rw[hjk,hg] at hw2;cases hw2;exact⟨g1,g2⟩
 ·have hk':k=ws.length:=by rw[aD] at h;simp at h;omega
  refine Rr ?_;refine aB nn ⟨?_,rfl,rfl⟩;rw[hnum];congr 1;symm;simp only[Bool.and_eq_true,List.all_eq_true,decide_eq_true_eq];refine⟨⟨⟨⟨h1,h2⟩,h3⟩,h4⟩,fun w hw=>?_⟩;obtain⟨j,hj⟩:=List.getElem?_of_mem hw;exact hall j w (by rw[hk'];exact(List.getElem?_eq_some_iff.1 hj).1) hj
end Go.Proofs.YtobknjmfgjaehaaGreatDoor
