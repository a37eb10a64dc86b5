/- A part of the proof. -/
import Derived.Test.YtioogodkiglceaaGreatDoorAx12
set_option linter.unusedVariables false
set_option linter.unusedSimpArgs false
set_option linter.unusedSectionVars false
namespace Go.Proofs.YtioogodkiglceaaGreatDoor
open Go Go.Ax Go.Proofs Tryz
set_option maxRecDepth 100000
set_option maxHeartbeats 8000000
theorem RQ(s:List UInt8)(hs:s.length<=4294967296):bB prog [] 94 [.str s] (.bool (eP s)):=by
  refine aK bG func94 rfl ?_;refine Rr ?_;refine aI (fun h=>?_) (fun h=>?_)
  · rw[h]
    refine Rr ?_;refine aA nn ⟨?_,rfl,rfl⟩;rw[u9 (by simp at h;rw[h];simp)]
  have h1:1<=s.length:=by
    rcases V6 s.length with h'|h'
    · rw[h'] at h;simp at h
    · exact h'
  rw[h];refine Rr ?_;refine aI (fun h=>?_) (fun h=>?_)
  · rw[h]
    refine Rr ?_;refine aA nn ⟨?_,rfl,rfl⟩;rw[oJ (by simp at h;omega)]
  have h2:s.length<=16:=by simp at h;omega
  rw[h];obtain⟨a,ha⟩:∃a,s[0]? = some a:=⟨s[0],by simp⟩
  refine Rr ?_;refine aD ha ?_;refine Rr ?_;refine aI (fun h=>?_) (fun h=>?_)
  · rw[h]
    refine Rr ?_;refine aA nn ⟨?_,rfl,rfl⟩;rw[kW ha (by simp[oB] at *;omega)]
  have h3:65<=(a.toNat:Int):=by simpa using h
  rw[h];refine Rr ?_;refine aD ha ?_;refine Rr ?_;refine aI (fun h=>?_) (fun h=>?_)
  · refine Rr ?_
    refine aA nn ⟨?_,rfl,rfl⟩;rw[kW ha (by simp[oB] at *;omega)]
  have h4:(a.toNat:Int)<=90:=by simpa using h
  refine Rr ?_;refine bC.at bG (fun i:Nat=>i<=s.length/\∀j c,j<i->s[j]? = some c->wJ c.toNat=true)
    (fun i=>⟨[(0,.str s),(3,.int .i64 i)],[],0,59⟩) (fun i=>s.length-i) 0 [] ⟨by simp,by simp⟩
    (bX ⟨aF,aF,trivial⟩) ?_
  rintro i ⟨hi,hall⟩;refine Rr ?_;refine aI (fun h=>?_) (fun h=>?_)
  · have hlt:i<s.length:=by simpa using h
    obtain⟨c,hc⟩:∃c,s[i]? = some c:=⟨s[i],by simp[hlt]⟩
    have hc':s[(i:Int).toNat]? = some c:=by rw[Va];exact hc
    refine Rr ?_;refine aD hc' ?_;refine Rr ?_;repeat' (refine aI (fun h=>?_) (fun h=>?_)<;>((try rw[h]);refine Rr ?_))
    all_goals first
      | (refine aA nn ⟨?_,rfl,rfl⟩
         rw[x7 hc (by rw[Ws];simp[wJ] at *;omega)])
      | (refine .mk (i+1) [] ⟨om,fun j c2 hj hc2=>?_⟩ (bX ⟨aF,⟨_,rfl,.w64 om ⟨om,om⟩⟩,trivial⟩) om
         rcases Vm j i with hj'|hj'
         · exact hall j c2 hj' hc2
         · have hji:j=i:=om
           rw[hji,hc] at hc2;cases hc2;simp[wJ] at *;omega)
  · refine Rr ?_
    refine aA nn ⟨?_,rfl,rfl⟩;have hk:i=s.length:=by simp at h;omega
    rw[xI ha h2 (by simp[oB];omega) fun j c hc=>hall j c (by rw[hk];exact(VX.1 hc).1) hc]
theorem PR(x:Nd):bB prog [] 93 [bW x] (.bool (gY x)):=by
 obtain⟨kind,name,lo,hi,ws,ls,vals,kids,⟨vk,vn,vs,vks⟩⟩:=x;refine aK bG func93 rfl ?_;rcases(show kind=0∨kind=1∨kind=2∨kind=3∨kind=4∨(kind≠0/\kind≠1/\kind≠2/\kind≠3/\kind≠4) by omega) with rfl|rfl|rfl|rfl|rfl|hk
 all_goals
  refine Rr ?_;repeat' (refine aI (fun h=>?_) (fun h=>?_)<;>((try rw[h]);refine Rr ?_))
 all_goals
  refine aA nn ⟨?_,rfl,rfl⟩;congr 1;rw[V5];simp_all[gY,zN,aB,aC,bE,WY]
theorem N3(x:Nd)(hx:n4 x):bB prog [] 66 [bW x] (.bool (dX x)):=by
 have b1:=hx.lo;have b2:=hx.hi;have b3:=hx.weights;clear hx;obtain⟨kind,name,lo,hi,ws,ls,vals,kids,⟨vk,vn,vs,vks⟩⟩:=x;simp only[i64] at b1 b2 b3;have hnum:dX ⟨kind,name,lo,hi,ws,ls,vals,kids,.mk vk vn vs vks⟩=(decide (lo<=hi) && decide (-4611686018427387904<=lo) && decide (hi<=4611686018427387904) && decide (hi<lo+1099511627776) && ws.all fun w=>decide (1<=w) && decide (w<=1000)):=rfl;generalize dX ⟨kind,name,lo,hi,ws,ls,vals,kids,.mk vk vn vs vks⟩=res at hnum;have hF:∀P:Prop,(res=true->P)->(¬P)->res=false:=fun P h1 h2=>by
  cases hr:res with
  | false=>rfl
  | true=>exact absurd (h1 hr) h2
 refine aK bG func66 rfl ?_;refine Rr ?_;refine aI (fun h=>?_) (fun h=>?_)
 ·rw[h];refine Rr ?_;refine aA nn ⟨?_,rfl,rfl⟩;rw[hF (lo<=hi) (by intro e;rw[hnum] at e;simp at e;omega) (by simp at h;omega)]
 have h1:lo<=hi:=by simpa using h
 rw[h];refine Rr ?_;refine aI (fun h=>?_) (fun h=>?_)
 ·rw[h];refine Rr ?_;refine aA nn ⟨?_,rfl,rfl⟩;rw[hF (-4611686018427387904<=lo) (by intro e;rw[hnum] at e;simp at e;omega) (by simp at h;omega)]
 have h2 : -4611686018427387904<=lo:=by simpa using h
 rw[h];refine Rr ?_;refine aI (fun h=>?_) (fun h=>?_)
 ·rw[h];refine Rr ?_;refine aA nn ⟨?_,rfl,rfl⟩;rw[hF (hi<=4611686018427387904) (by intro e;rw[hnum] at e;simp at e;omega) (by simp at h;omega)]
 have h3:hi<=4611686018427387904:=by simpa using h
 rw[h];have hw:IntKind.i64.wrap (lo+1099511627776)=lo+1099511627776:=w64 rfl ⟨om,om⟩;refine Rr ?_;rw[hw];refine aI (fun h=>?_) (fun h=>?_)
 ·refine Rr ?_;refine aA nn ⟨?_,rfl,rfl⟩;rw[hF (hi<lo+1099511627776) (by intro e;rw[hnum] at e;simp at e;omega) (by simp at h;omega)]
 have h4:hi<lo+1099511627776:=by simpa using h
 refine Rr ?_;refine bC.at bG (fun k:Nat=>k<=ws.length/\∀j w,j<k->ws[j]? = some w->1<=w/\w<=1000)
  (fun k=>⟨[(1,.ptr 0 0 0),(3,.int .i64 k)],[(0,.row 46 12 [bW ⟨kind,name,lo,hi,ws,ls,vals,kids,.mk vk vn vs vks⟩])],1,48⟩) (fun k=>ws.length-k) 0 [(0,0)] ⟨by simp,by simp⟩
  (aG _ rfl ⟨aL 0 (.cons (aV _) .nil),trivial⟩ ⟨aJ,aF,trivial⟩) ?_
 rintro k ⟨hk,hall⟩;refine Rr ?_;refine aI (fun h=>?_) (fun h=>?_)
 ·have hlt:k<ws.length:=by rw[aC] at h;simpa using h
  have e1:(aS ws)[(k:Int).toNat]? = some (.int .i64 ws[k]):=by rw[Va,a8,VV hlt];rfl
  have hg:ws[k]? = some ws[k]:=VV hlt;generalize ws[k]=w at e1 hg;have hbad:(1<=w/\w<=1000->False)->res=false:=fun hb=>hF (1<=w/\w<=1000) (by
   intro e;rw[hnum] at e;simp only[VZ,WW,Vt] at e;exact e.2 w (Ve hg)) hb
  refine Rr ?_;refine aD e1 ?_;refine Rr ?_;refine aI (fun h=>?_) (fun h=>?_)
  ·rw[h];refine Rr ?_;refine aA nn ⟨?_,rfl,rfl⟩;rw[hbad (by simp at h;omega)]
  ·have g1:1<=w:=by simpa using h
   rw[h];refine Rr ?_;refine aD e1 ?_;refine Rr ?_;refine aI (fun h=>?_) (fun h=>?_)
   ·refine Rr ?_;refine aA nn ⟨?_,rfl,rfl⟩;rw[hbad (by simp at h;omega)]
   ·have g2:w<=1000:=by simpa using h
    refine Rr ?_;refine .mk (k+1) [(0,0)] ⟨om,fun j w2 hj hw2=>?_⟩ (aG _ rfl ⟨aL 0 (.cons (aV _) .nil),trivial⟩ ⟨aJ,⟨_,rfl,.w64 om ⟨om,om⟩⟩,trivial⟩) om;rcases Vm j k with hj'|hj'
    ·exact hall j w2 hj' hw2
    ·have hjk:j=k:=om;rw[hjk,hg] at hw2;cases hw2;exact⟨g1,g2⟩
 ·have hk':k=ws.length:=by rw[aC] at h;simp at h;omega
  refine Rr ?_;refine aA nn ⟨?_,rfl,rfl⟩;rw[hnum];congr 1;symm;simp only[VZ,WW,Vt];refine⟨⟨⟨⟨h1,h2⟩,h3⟩,h4⟩,fun w hw=>?_⟩;obtain⟨j,hj⟩:=V2 hw;exact hall j w (by rw[hk'];exact(VX.1 hj).1) hj
end Go.Proofs.YtioogodkiglceaaGreatDoor
