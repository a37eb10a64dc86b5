/- A part of the proof. -/
import Derived.Test.YtidjhgajglebnaaGreatDoorAx14
set_option linter.unusedVariables false
set_option linter.unusedSimpArgs false
namespace Go.Proofs.YtidjhgajglebnaaGreatDoor
open Go Go.Ax Go.Proofs Tryz
set_option maxRecDepth 100000
set_option maxHeartbeats 8000000
theorem VF(s:List UInt8)(hs:s.length<=4294967296):aT prog [] 129 [.str s] (.bool (fU s)):=by
  refine aD bD func129 rfl ?_;refine Rr ?_;refine aH (fun h=>?_) (fun h=>?_)
  · rw[h]
    refine Rr ?_;refine aA nn ⟨?_,rfl,rfl⟩;rw[wT (by simp at h;rw[h];simp)]
  have h1:1<=s.length:=by
    rcases Y2 s.length with h'|h'
    · rw[h'] at h;simp at h
    · exact h'
  rw[h];refine Rr ?_;refine aH (fun h=>?_) (fun h=>?_)
  · rw[h]
    refine Rr ?_;refine aA nn ⟨?_,rfl,rfl⟩;rw[mS (by simp at h;omega)]
  have h2:s.length<=16:=by simp at h;omega
  rw[h];obtain⟨a,ha⟩:∃a,s[0]? = some a:=⟨s[0],by simp⟩
  refine Rr ?_;refine aB ha ?_;refine Rr ?_;refine aH (fun h=>?_) (fun h=>?_)
  · rw[h]
    refine Rr ?_;refine aA nn ⟨?_,rfl,rfl⟩;rw[lQ ha (by simp[upper] at *;omega)]
  have h3:65<=(a.toNat:Int):=by simpa using h
  rw[h];refine Rr ?_;refine aB ha ?_;refine Rr ?_;refine aH (fun h=>?_) (fun h=>?_)
  · refine Rr ?_
    refine aA nn ⟨?_,rfl,rfl⟩;rw[lQ ha (by simp[upper] at *;omega)]
  have h4:(a.toNat:Int)<=90:=by simpa using h
  refine Rr ?_;refine aZ.at bD (fun i:Nat=>i<=s.length/\∀j c,j<i->s[j]? = some c->x8 c.toNat=true)
    (fun i=>⟨[(0,.str s),(3,.int .i64 i)],[],0,59⟩) (fun i=>s.length-i) 0 [] ⟨by simp,by simp⟩
    (bL ⟨aK,aK,trivial⟩) ?_
  rintro i ⟨hi,hall⟩;refine Rr ?_;refine aH (fun h=>?_) (fun h=>?_)
  · have hlt:i<s.length:=by simpa using h
    obtain⟨c,hc⟩:∃c,s[i]? = some c:=⟨s[i],by simp[hlt]⟩
    have hc':s[(i:Int).toNat]? = some c:=by rw[Yl];exact hc
    refine Rr ?_;refine aB hc' ?_;refine Rr ?_;repeat' (refine aH (fun h=>?_) (fun h=>?_)<;>((try rw[h]);refine Rr ?_))
    all_goals first
      | (refine aA nn ⟨?_,rfl,rfl⟩
         rw[zO hc (by rw[Z7];simp[x8] at *;omega)])
      | (refine .mk (i+1) [] ⟨by omega,fun j c2 hj hc2=>?_⟩ (bL ⟨aK,⟨_,rfl,.wo⟩,trivial⟩) (by omega)
         rcases Y5 j i with hj'|hj'
         · exact hall j c2 hj' hc2
         · have hji:j=i:=by omega
           rw[hji,hc] at hc2;cases hc2;simp[x8] at *;omega)
  · refine Rr ?_
    refine aA nn ⟨?_,rfl,rfl⟩;have hk:i=s.length:=by simp at h;omega
    rw[zJ ha h2 (by simp[upper];omega) fun j c hc=>hall j c (by rw[hk];exact(Yn.1 hc).1) hc]
theorem TE(x:Nd):aT prog [] 128 [cD x] (.bool (lH x)):=by
 obtain⟨kind,name,lo,hi,ws,ls,vals,kids,⟨vk,vn,vs,vks⟩⟩:=x;refine aD bD func128 rfl ?_;rcases(show kind=0∨kind=1∨kind=2∨kind=3∨kind=4∨(kind≠0/\kind≠1/\kind≠2/\kind≠3/\kind≠4) by omega) with rfl|rfl|rfl|rfl|rfl|hk
 all_goals
  refine Rr ?_;repeat' (refine aH (fun h=>?_) (fun h=>?_)<;>((try rw[h]);refine Rr ?_))
 all_goals
  refine aA nn ⟨?_,rfl,rfl⟩;congr 1;rw[ZN];simp_all[lH,Er,aC,aI,bY,Zr]
theorem Qz(x:Nd)(hx:uW x):aT prog [] 72 [cD x] (.bool (dT x)):=by
 have b1:=hx.lo;have b2:=hx.hi;have b3:=hx.weights;clear hx;obtain⟨kind,name,lo,hi,ws,ls,vals,kids,⟨vk,vn,vs,vks⟩⟩:=x;simp only[i64] at b1 b2 b3;have hnum:dT ⟨kind,name,lo,hi,ws,ls,vals,kids,.mk vk vn vs vks⟩=(decide (lo<=hi) && decide (-4611686018427387904<=lo) && decide (hi<=4611686018427387904) && decide (hi<lo+1099511627776) && ws.all fun w=>decide (1<=w) && decide (w<=1000)):=rfl;generalize dT ⟨kind,name,lo,hi,ws,ls,vals,kids,.mk vk vn vs vks⟩=res at hnum;have hF:∀P:Prop,(res=true->P)->(¬P)->res=false:=fun P h1 h2=>by
  cases hr:res with
  | false=>rfl
  | true=>exact absurd (h1 hr) h2
 refine aD bD func72 rfl ?_;refine Rr ?_;refine aH (fun h=>?_) (fun h=>?_)
 ·rw[h];refine Rr ?_;refine aA nn ⟨?_,rfl,rfl⟩;rw[hF (lo<=hi) (by intro e;rw[hnum] at e;simp at e;omega) (by simp at h;omega)]
 have h1:lo<=hi:=by simpa using h
 rw[h];refine Rr ?_;refine aH (fun h=>?_) (fun h=>?_)
 ·rw[h];refine Rr ?_;refine aA nn ⟨?_,rfl,rfl⟩;rw[hF (-4611686018427387904<=lo) (by intro e;rw[hnum] at e;simp at e;omega) (by simp at h;omega)]
 have h2 : -4611686018427387904<=lo:=by simpa using h
 rw[h];refine Rr ?_;refine aH (fun h=>?_) (fun h=>?_)
 ·rw[h];refine Rr ?_;refine aA nn ⟨?_,rfl,rfl⟩;rw[hF (hi<=4611686018427387904) (by intro e;rw[hnum] at e;simp at e;omega) (by simp at h;omega)]
 have h3:hi<=4611686018427387904:=by simpa using h
 rw[h];have hw:IntKind.i64.wrap (lo+1099511627776)=lo+1099511627776:=w64 rfl ⟨by omega,by omega⟩;refine Rr ?_;rw[hw];refine aH (fun h=>?_) (fun h=>?_)
 ·refine Rr ?_;refine aA nn ⟨?_,rfl,rfl⟩;rw[hF (hi<lo+1099511627776) (by intro e;rw[hnum] at e;simp at e;omega) (by simp at h;omega)]
 have h4:hi<lo+1099511627776:=by simpa using h
 refine Rr ?_;refine aZ.at bD (fun k:Nat=>k<=ws.length/\∀j w,j<k->ws[j]? = some w->1<=w/\w<=1000)
  (fun k=>⟨[(1,.ptr 0 0 0),(3,.int .i64 k)],[(0,.row 57 12 [cD ⟨kind,name,lo,hi,ws,ls,vals,kids,.mk vk vn vs vks⟩])],1,48⟩) (fun k=>ws.length-k) 0 [(0,0)] ⟨by simp,by simp⟩
  (aE _ rfl ⟨aL 0 (.cons (aV _) .nil),trivial⟩ ⟨aG,aK,trivial⟩) ?_
 rintro k ⟨hk,hall⟩;refine Rr ?_;refine aH (fun h=>?_) (fun h=>?_)
 ·have hlt:k<ws.length:=by rw[aI] at h;simpa using h
  have e1:(bH ws)[(k:Int).toNat]? = some (.int .i64 ws[k]):=by rw[Yl,bU,Yj hlt];rfl
  have hg:ws[k]? = some ws[k]:=Yj hlt;generalize ws[k]=w at e1 hg;have hbad:(1<=w/\w<=1000->False)->res=false:=fun hb=>hF (1<=w/\w<=1000) (by
   intro e;rw[hnum] at e;simp only[Yk,Z9,ZA] at e;exact e.2 w (Yv hg)) hb
  refine Rr ?_;refine aB e1 ?_;refine Rr ?_;refine aH (fun h=>?_) (fun h=>?_)
  ·rw[h];refine Rr ?_;refine aA nn ⟨?_,rfl,rfl⟩;rw[hbad (by simp at h;omega)]
  ·have g1:1<=w:=by simpa using h
   rw[h];refine Rr ?_;refine aB e1 ?_;refine Rr ?_;refine aH (fun h=>?_) (fun h=>?_)
   ·refine Rr ?_;refine aA nn ⟨?_,rfl,rfl⟩;rw[hbad (by simp at h;omega)]
   ·have g2:w<=1000:=by simpa using h
    refine Rr ?_;refine .mk (k+1) [(0,0)] ⟨by omega,fun j w2 hj hw2=>?_⟩ (aE _ rfl ⟨aL 0 (.cons (aV _) .nil),trivial⟩ ⟨aG,⟨_,rfl,.wo⟩,trivial⟩) (by omega);rcases Y5 j k with hj'|hj'
    ·exact hall j w2 hj' hw2
    ·have hjk:j=k:=by omega
     rw[hjk,hg] at hw2;cases hw2;exact⟨g1,g2⟩
 ·have hk':k=ws.length:=by rw[aI] at h;simp at h;omega
  refine Rr ?_;refine aA nn ⟨?_,rfl,rfl⟩;rw[hnum];congr 1;symm;simp only[Yk,Z9,ZA];refine⟨⟨⟨⟨h1,h2⟩,h3⟩,h4⟩,fun w hw=>?_⟩;obtain⟨j,hj⟩:=ZQ hw;exact hall j w (by rw[hk'];exact(Yn.1 hj).1) hj
end Go.Proofs.YtidjhgajglebnaaGreatDoor
