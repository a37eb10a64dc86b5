/- A part of the proof. -/
import Derived.Test.YthggfhnnkclooaaGreatDoorAx14
set_option linter.unusedSectionVars false
set_option linter.unusedVariables false
set_option linter.unusedSimpArgs false
set_option maxRecDepth 1000000
set_option maxHeartbeats 16000000
namespace Go.Proofs.YthggfhnnkclooaaGreatDoor
open Go Go.Ax Go.Proofs Tryz
theorem UU(s:List UInt8)(hs:s.length<=4294967296):aX prog [] 187 [.str s] (.bool (fO s)):=by
  refine aG bJ func187 rfl ?_;refine Z ?_;refine aL (λh=>?_) (λh=>?_)
  · rw[h]
    refine Z ?_;refine aA nn ⟨?_,rfl,rfl⟩;rw[vV (by simp at h;rw[h];simp)]
  have h1:1<=s.length:=by
    rcases ZC s.length with h'|h'
    · rw[h'] at h;simp at h
    · exact h'
  rw[h];refine Z ?_;refine aL (λh=>?_) (λh=>?_)
  · rw[h]
    refine Z ?_;refine aA nn ⟨?_,rfl,rfl⟩;rw[tN (by simp at h;omega)]
  have h2:s.length<=16:=by simp at h;omega
  rw[h];obtain⟨a,ha⟩:∃a,s[0]? = some a:=⟨s[0],sq⟩
  refine Z ?_;refine aC ha ?_;refine Z ?_;refine aL (λh=>?_) (λh=>?_)
  · rw[h]
    refine Z ?_;refine aA nn ⟨?_,rfl,rfl⟩;rw[kW ha (by simp[upper] at *;omega)]
  have h3:65<=(a.toNat:Int):=su h
  rw[h];refine Z ?_;refine aC ha ?_;refine Z ?_;refine aL (λh=>?_) (λh=>?_)
  · refine Z ?_
    refine aA nn ⟨?_,rfl,rfl⟩;rw[kW ha (by simp[upper] at *;omega)]
  have h4:(a.toNat:Int)<=90:=su h
  refine Z ?_;refine bI.at bJ (λi:Nat=>i<=s.length/\∀j c,j<i->s[j]? = some c->xB c.toNat=true)
    (λi=>⟨[(0,.str s),(3,.int .i64 i)],[],0,59⟩) (λi=>s.length-i) 0 [] ⟨sq,sq⟩
    (bX ⟨aF,aF,trivial⟩) ?_
  rintro i ⟨hi,hall⟩;refine Z ?_;refine aL (λh=>?_) (λh=>?_)
  · have hlt:i<s.length:=su h
    obtain⟨c,hc⟩:∃c,s[i]? = some c:=⟨s[i],by simp[hlt]⟩
    have hc':s[(i:Int).toNat]? = some c:=by rw[Yy];exact hc
    refine Z ?_;refine aC hc' ?_;refine Z ?_;repeat' (refine aL (λh=>?_) (λh=>?_)<;>((try rw[h]);refine Z ?_))
    all_goals first
      | (refine aA nn ⟨?_,rfl,rfl⟩
         rw[yF hc (by rw[aAC];simp[xB] at *;omega)])
      | (refine .mk (i+1) [] ⟨om,λj c2 hj hc2=>?_⟩ (bX ⟨aF,⟨_,rfl,.w64 om oq⟩,trivial⟩) om
         rcases ZG j i with hj'|hj'
         · exact hall j c2 hj' hc2
         · have hji:j=i:=om
           rw[hji,hc] at hc2;cases hc2;simp[xB] at *;omega)
  · refine Z ?_
    refine aA nn ⟨?_,rfl,rfl⟩;have hk:i=s.length:=by simp at h;omega
    rw[y8 ha h2 (by simp[upper];omega) λj c hc=>hall j c (by rw[hk];exact(Y0.1 hc).1) hc]
theorem SG(x:Nd):aX prog [] 186 [cK x] (.bool (jF x)):=by
 obtain⟨kind,name,lo,hi,ws,ls,vals,kids,⟨vk,vn,vs,vks⟩⟩:=x;refine aG bJ func186 rfl ?_;rcases(show kind=0\/kind=1\/kind=2\/kind=3\/kind=4\/(kind≠0/\kind≠1/\kind≠2/\kind≠3/\kind≠4) by omega) with rfl|rfl|rfl|rfl|rfl|hk
 all_goals
  refine Z ?_;repeat' (refine aL (λh=>?_) (λh=>?_)<;>((try rw[h]);refine Z ?_))
 all_goals
  refine aA nn ⟨?_,rfl,rfl⟩;congr 1;rw[Ze];simp_all[jF,CZ,aB,aH,cS,aAc]
theorem PF(x:Nd)(hx:sU x):aX prog [] 120 [cK x] (.bool (eD x)):=by
 have b1:=hx.lo;have b2:=hx.hi;have b3:=hx.weights;clear hx;obtain⟨kind,name,lo,hi,ws,ls,vals,kids,⟨vk,vn,vs,vks⟩⟩:=x;simp only[i64] at b1 b2 b3;have hnum:eD ⟨kind,name,lo,hi,ws,ls,vals,kids,.mk vk vn vs vks⟩=(decide (lo<=hi) && decide (-4611686018427387904<=lo) && decide (hi<=4611686018427387904) && decide (hi<lo+1099511627776) && ws.all λw=>decide (1<=w) && decide (w<=1000)):=rfl;generalize eD ⟨kind,name,lo,hi,ws,ls,vals,kids,.mk vk vn vs vks⟩=res at hnum;have hF:∀P:Prop,(res=true->P)->(¬P)->res=false:=λP h1 h2=>by
  cases hr:res with
  | false=>rfl
  | true=>exact absurd (h1 hr) h2
 refine aG bJ func120 rfl ?_;refine Z ?_;refine aL (λh=>?_) (λh=>?_)
 .rw[h];refine Z ?_;refine aA nn ⟨?_,rfl,rfl⟩;rw[hF (lo<=hi) (by intro e;rw[hnum] at e;simp at e;omega) (by simp at h;omega)]
 have h1:lo<=hi:=su h
 rw[h];refine Z ?_;refine aL (λh=>?_) (λh=>?_)
 .rw[h];refine Z ?_;refine aA nn ⟨?_,rfl,rfl⟩;rw[hF (-4611686018427387904<=lo) (by intro e;rw[hnum] at e;simp at e;omega) (by simp at h;omega)]
 have h2 : -4611686018427387904<=lo:=su h
 rw[h];refine Z ?_;refine aL (λh=>?_) (λh=>?_)
 .rw[h];refine Z ?_;refine aA nn ⟨?_,rfl,rfl⟩;rw[hF (hi<=4611686018427387904) (by intro e;rw[hnum] at e;simp at e;omega) (by simp at h;omega)]
 have h3:hi<=4611686018427387904:=su h
 rw[h];have hw:IntKind.i64.wrap (lo+1099511627776)=lo+1099511627776:=w64 rfl oq;refine Z ?_;rw[hw];refine aL (λh=>?_) (λh=>?_)
 .refine Z ?_;refine aA nn ⟨?_,rfl,rfl⟩;rw[hF (hi<lo+1099511627776) (by intro e;rw[hnum] at e;simp at e;omega) (by simp at h;omega)]
 have h4:hi<lo+1099511627776:=su h
 refine Z ?_;refine bI.at bJ (λk:Nat=>k<=ws.length/\∀j w,j<k->ws[j]? = some w->1<=w/\w<=1000)
  (λk=>⟨[(1,.ptr 0 0 0),(3,.int .i64 k)],[(0,.row 59 12 [cK ⟨kind,name,lo,hi,ws,ls,vals,kids,.mk vk vn vs vks⟩])],1,48⟩) (λk=>ws.length-k) 0 [(0,0)] ⟨sq,sq⟩
  (aK _ rfl ⟨aI 0 (.cons (bH _) .nil),trivial⟩ ⟨aN,aF,trivial⟩) ?_
 rintro k ⟨hk,hall⟩;refine Z ?_;refine aL (λh=>?_) (λh=>?_)
 .have hlt:k<ws.length:=by rw[aH] at h;simpa using h
  have e1:(aV ws)[(k:Int).toNat]? = some (.int .i64 ws[k]):=by rw[Yy,bK,Yw hlt];rfl
  have hg:ws[k]? = some ws[k]:=Yw hlt;generalize ws[k]=w at e1 hg;have hbad:(1<=w/\w<=1000->False)->res=false:=λhb=>hF (1<=w/\w<=1000) (by
   intro e;rw[hnum] at e;simp only[Y1,Z3,ZR] at e;exact e.2 w (Y2 hg)) hb
  refine Z ?_;refine aC e1 ?_;refine Z ?_;refine aL (λh=>?_) (λh=>?_)
  .rw[h];refine Z ?_;refine aA nn ⟨?_,rfl,rfl⟩;rw[hbad (by simp at h;omega)]
  .have g1:1<=w:=su h
   rw[h];refine Z ?_;refine aC e1 ?_;refine Z ?_;refine aL (λh=>?_) (λh=>?_)
   .refine Z ?_;refine aA nn ⟨?_,rfl,rfl⟩;rw[hbad (by simp at h;omega)]
   .have g2:w<=1000:=su h
    refine Z ?_;refine .mk (k+1) [(0,0)] ⟨om,λj w2 hj hw2=>?_⟩ (aK _ rfl ⟨aI 0 (.cons (bH _) .nil),trivial⟩ ⟨aN,⟨_,rfl,.w64 om oq⟩,trivial⟩) om;rcases ZG j k with hj'|hj'
    .exact hall j w2 hj' hw2
    .have hjk:j=k:=om;rw[hjk,hg] at hw2;cases hw2;exact⟨g1,g2⟩
 .have hk':k=ws.length:=by rw[aH] at h;simp at h;omega
  refine Z ?_;refine aA nn ⟨?_,rfl,rfl⟩;rw[hnum];congr 1;symm;simp only[Y1,Z3,ZR];refine⟨⟨⟨⟨h1,h2⟩,h3⟩,h4⟩,λw hw=>?_⟩;obtain⟨j,hj⟩:=ZV hw;exact hall j w (by rw[hk'];exact(Y0.1 hj).1) hj
end Go.Proofs.YthggfhnnkclooaaGreatDoor
