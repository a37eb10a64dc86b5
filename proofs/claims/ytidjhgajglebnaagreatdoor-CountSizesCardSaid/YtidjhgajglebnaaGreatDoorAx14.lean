/- A part of the proof. -/
import Derived.Test.YtidjhgajglebnaaGreatDoorAx13
set_option linter.unusedVariables false
set_option linter.unusedSimpArgs false
set_option maxRecDepth 1000000
set_option maxHeartbeats 16000000
namespace Go.Proofs.YtidjhgajglebnaaGreatDoor
open Go Go.Ax Go.Proofs Tryz
theorem Wf(s:List UInt8)(hs:s.length<=4294967296):aT prog [] 129 [.str s] (.bool (Go.Ax.f9 s)):=by
  refine aD bE func129 rfl ?_;refine Rr ?_;refine aI (λh=>?_) (λh=>?_)
  · rw[h]
    refine Rr ?_;refine aA nn ⟨?_,rfl,rfl⟩;rw[xH (by simp at h;rw[h];simp)]
  have h1:1<=s.length:=by
    rcases aAz s.length with h'|h'
    · rw[h'] at h;simp at h
    · exact h'
  rw[h];refine Rr ?_;refine aI (λh=>?_) (λh=>?_)
  · rw[h]
    refine Rr ?_;refine aA nn ⟨?_,rfl,rfl⟩;rw[nQ (by simp at h;omega)]
  have h2:s.length<=16:=by simp at h;omega
  rw[h];obtain⟨a,ha⟩:∃a,s[0]? = some a:=⟨s[0],sq⟩
  refine Rr ?_;refine aB ha ?_;refine Rr ?_;refine aI (λh=>?_) (λh=>?_)
  · rw[h]
    refine Rr ?_;refine aA nn ⟨?_,rfl,rfl⟩;rw[mC ha (by simp[upper] at *;omega)]
  have h3:65<=(a.toNat:Int):=su h
  rw[h];refine Rr ?_;refine aB ha ?_;refine Rr ?_;refine aI (λh=>?_) (λh=>?_)
  · refine Rr ?_
    refine aA nn ⟨?_,rfl,rfl⟩;rw[mC ha (by simp[upper] at *;omega)]
  have h4:(a.toNat:Int)<=90:=su h
  refine Rr ?_;refine bA.at bE (λi:Nat=>i<=s.length/\∀j c,j<i->s[j]? = some c->zK c.toNat=true)
    (λi=>⟨[(0,.str s),(3,.int .i64 i)],[],0,59⟩) (λi=>s.length-i) 0 [] ⟨sq,sq⟩
    (bX ⟨aJ,aJ,trivial⟩) ?_
  rintro i ⟨hi,hall⟩;refine Rr ?_;refine aI (λh=>?_) (λh=>?_)
  · have hlt:i<s.length:=su h
    obtain⟨c,hc⟩:∃c,s[i]? = some c:=⟨s[i],by simp[hlt]⟩
    have hc':s[(i:Int).toNat]? = some c:=by rw[aAc];exact hc
    refine Rr ?_;refine aB hc' ?_;refine Rr ?_;repeat' (refine aI (λh=>?_) (λh=>?_)<;>((try rw[h]);refine Rr ?_))
    all_goals first
      | (refine aA nn ⟨?_,rfl,rfl⟩
         rw[Au hc (by rw[aBz];simp[zK] at *;omega)])
      | (refine .mk (i+1) [] ⟨om,λj c2 hj hc2=>?_⟩ (bX ⟨aJ,⟨_,rfl,.w64 om oq⟩,trivial⟩) om
         rcases aAr j i with hj'|hj'
         · exact hall j c2 hj' hc2
         · have hji:j=i:=om
           rw[hji,hc] at hc2;cases hc2;simp[zK] at *;omega)
  · refine Rr ?_
    refine aA nn ⟨?_,rfl,rfl⟩;have hk:i=s.length:=by simp at h;omega
    rw[Ad ha h2 (by simp[upper];omega) λj c hc=>hall j c (by rw[hk];exact(aAg.1 hc).1) hc]
theorem UI(x:Nd):aT prog [] 128 [cW x] (.bool (lU x)):=by
 obtain⟨kind,name,lo,hi,ws,ls,vals,kids,⟨vk,vn,vs,vks⟩⟩:=x;refine aD bE func128 rfl ?_;rcases(show kind=0\/kind=1\/kind=2\/kind=3\/kind=4\/(kind≠0/\kind≠1/\kind≠2/\kind≠3/\kind≠4) by omega) with rfl|rfl|rfl|rfl|rfl|hk
 all_goals
  refine Rr ?_;repeat' (refine aI (λh=>?_) (λh=>?_)<;>((try rw[h]);refine Rr ?_))
 all_goals
  refine aA nn ⟨?_,rfl,rfl⟩;congr 1;rw[aAS];simp_all[lU,Em,aC,aK,cE,aA5]
theorem RD(x:Nd)(hx:x9 x):aT prog [] 72 [cW x] (.bool (Go.Ax.d7 x)):=by
 have b1:=hx.lo;have b2:=hx.hi;have b3:=hx.weights;clear hx;obtain⟨kind,name,lo,hi,ws,ls,vals,kids,⟨vk,vn,vs,vks⟩⟩:=x;simp only[i64] at b1 b2 b3;have hnum:Go.Ax.d7 ⟨kind,name,lo,hi,ws,ls,vals,kids,.mk vk vn vs vks⟩=(decide (lo<=hi) && decide (-4611686018427387904<=lo) && decide (hi<=4611686018427387904) && decide (hi<lo+1099511627776) && ws.all λw=>decide (1<=w) && decide (w<=1000)):=rfl;generalize Go.Ax.d7 ⟨kind,name,lo,hi,ws,ls,vals,kids,.mk vk vn vs vks⟩=res at hnum;have hF:∀P:Prop,(res=true->P)->(¬P)->res=false:=λP h1 h2=>by
  cases hr:res with
  | false=>rfl
  | true=>exact absurd (h1 hr) h2
 refine aD bE func72 rfl ?_;refine Rr ?_;refine aI (λh=>?_) (λh=>?_)
 .rw[h];refine Rr ?_;refine aA nn ⟨?_,rfl,rfl⟩;rw[hF (lo<=hi) (by intro e;rw[hnum] at e;simp at e;omega) (by simp at h;omega)]
 have h1:lo<=hi:=su h
 rw[h];refine Rr ?_;refine aI (λh=>?_) (λh=>?_)
 .rw[h];refine Rr ?_;refine aA nn ⟨?_,rfl,rfl⟩;rw[hF (-4611686018427387904<=lo) (by intro e;rw[hnum] at e;simp at e;omega) (by simp at h;omega)]
 have h2 : -4611686018427387904<=lo:=su h
 rw[h];refine Rr ?_;refine aI (λh=>?_) (λh=>?_)
 .rw[h];refine Rr ?_;refine aA nn ⟨?_,rfl,rfl⟩;rw[hF (hi<=4611686018427387904) (by intro e;rw[hnum] at e;simp at e;omega) (by simp at h;omega)]
 have h3:hi<=4611686018427387904:=su h
 rw[h];have hw:IntKind.i64.wrap (lo+1099511627776)=lo+1099511627776:=w64 rfl oq;refine Rr ?_;rw[hw];refine aI (λh=>?_) (λh=>?_)
 .refine Rr ?_;refine aA nn ⟨?_,rfl,rfl⟩;rw[hF (hi<lo+1099511627776) (by intro e;rw[hnum] at e;simp at e;omega) (by simp at h;omega)]
 have h4:hi<lo+1099511627776:=su h
 refine Rr ?_;refine bA.at bE (λk:Nat=>k<=ws.length/\∀j w,j<k->ws[j]? = some w->1<=w/\w<=1000)
  (λk=>⟨[(1,.ptr 0 0 0),(3,.int .i64 k)],[(0,.row 57 12 [cW ⟨kind,name,lo,hi,ws,ls,vals,kids,.mk vk vn vs vks⟩])],1,48⟩) (λk=>ws.length-k) 0 [(0,0)] ⟨sq,sq⟩
  (aE _ rfl ⟨aL 0 (.cons (bB _) .nil),trivial⟩ ⟨aF,aJ,trivial⟩) ?_
 rintro k ⟨hk,hall⟩;refine Rr ?_;refine aI (λh=>?_) (λh=>?_)
 .have hlt:k<ws.length:=by rw[aK] at h;simpa using h
  have e1:(bL ws)[(k:Int).toNat]? = some (.int .i64 ws[k]):=by rw[aAc,bP,aAa hlt];rfl
  have hg:ws[k]? = some ws[k]:=aAa hlt;generalize ws[k]=w at e1 hg;have hbad:(1<=w/\w<=1000->False)->res=false:=λhb=>hF (1<=w/\w<=1000) (by
   intro e;rw[hnum] at e;simp only[aAd,aBD,aAC] at e;exact e.2 w (aAm hg)) hb
  refine Rr ?_;refine aB e1 ?_;refine Rr ?_;refine aI (λh=>?_) (λh=>?_)
  .rw[h];refine Rr ?_;refine aA nn ⟨?_,rfl,rfl⟩;rw[hbad (by simp at h;omega)]
  .have g1:1<=w:=su h
   rw[h];refine Rr ?_;refine aB e1 ?_;refine Rr ?_;refine aI (λh=>?_) (λh=>?_)
   .refine Rr ?_;refine aA nn ⟨?_,rfl,rfl⟩;rw[hbad (by simp at h;omega)]
   .have g2:w<=1000:=su h
    refine Rr ?_;refine .mk (k+1) [(0,0)] ⟨om,λj w2 hj hw2=>?_⟩ (aE _ rfl ⟨aL 0 (.cons (bB _) .nil),trivial⟩ ⟨aF,⟨_,rfl,.w64 om oq⟩,trivial⟩) om;rcases aAr j k with hj'|hj'
    .exact hall j w2 hj' hw2
    .have hjk:j=k:=om;rw[hjk,hg] at hw2;cases hw2;exact⟨g1,g2⟩
 .have hk':k=ws.length:=by rw[aK] at h;simp at h;omega
  refine Rr ?_;refine aA nn ⟨?_,rfl,rfl⟩;rw[hnum];congr 1;symm;simp only[aAd,aBD,aAC];refine⟨⟨⟨⟨h1,h2⟩,h3⟩,h4⟩,λw hw=>?_⟩;obtain⟨j,hj⟩:=aAU hw;exact hall j w (by rw[hk'];exact(aAg.1 hj).1) hj
end Go.Proofs.YtidjhgajglebnaaGreatDoor
