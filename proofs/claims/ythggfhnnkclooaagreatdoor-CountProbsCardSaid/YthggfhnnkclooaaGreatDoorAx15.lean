/- A part of the proof. -/
import Derived.Test.YthggfhnnkclooaaGreatDoorAx14
set_option linter.unusedSectionVars false
set_option linter.unusedVariables false
set_option linter.unusedSimpArgs false
set_option maxRecDepth 1000000
set_option maxHeartbeats 16000000
namespace Go.Proofs.YthggfhnnkclooaaGreatDoor
open Go Go.Ax Go.Proofs Tryz
theorem VY(s:List UInt8)(hs:s.length<=4294967296):aU prog [] 187 [.str s] (.bool (gA s)):=by
  refine aD bI func187 rfl ?_;refine Z ?_;refine aL (λh=>?_) (λh=>?_)
  · rw[h]
    refine Z ?_;refine aA nn ⟨?_,rfl,rfl⟩;rw[vK (by simp at h;rw[h];simp)]
  have h1:1<=s.length:=by
    rcases ZF s.length with h'|h'
    · rw[h'] at h;simp at h
    · exact h'
  rw[h];refine Z ?_;refine aL (λh=>?_) (λh=>?_)
  · rw[h]
    refine Z ?_;refine aA nn ⟨?_,rfl,rfl⟩;rw[tN bk]
  have h2:s.length<=16:=bk
  rw[h];obtain⟨a,ha⟩:∃a,s[0]? = some a:=⟨s[0],sq⟩
  refine Z ?_;refine aC ha ?_;refine Z ?_;refine aL (λh=>?_) (λh=>?_)
  · rw[h]
    refine Z ?_;refine aA nn ⟨?_,rfl,rfl⟩;rw[kW ha (by simp[upper] at *;omega)]
  have h3:65<=(a.toNat:Int):=su h
  rw[h];refine Z ?_;refine aC ha ?_;refine Z ?_;refine aL (λh=>?_) (λh=>?_)
  · refine Z ?_
    refine aA nn ⟨?_,rfl,rfl⟩;rw[kW ha (by simp[upper] at *;omega)]
  have h4:(a.toNat:Int)<=90:=su h
  refine Z ?_;refine bJ.at bI (λi:Nat=>i<=s.length/\∀j c,j<i->s[j]? = some c->xG c.toNat=true)
    (λi=>⟨[(0,.str s),(3,.int .i64 i)],[],0,59⟩) (λi=>s.length-i) 0 [] ⟨sq,sq⟩
    (b9 ⟨aG,aG,trivial⟩) ?_
  rintro i ⟨hi,hall⟩;refine Z ?_;refine aL (λh=>?_) (λh=>?_)
  · have hlt:i<s.length:=su h
    obtain⟨c,hc⟩:∃c,s[i]? = some c:=⟨s[i],by simp[hlt]⟩
    have hc':s[(i:Int).toNat]? = some c:=by rw[Y1];exact hc
    refine Z ?_;refine aC hc' ?_;refine Z ?_;repeat' (refine aL (λh=>?_) (λh=>?_)<;>((try rw[h]);refine Z ?_))
    all_goals first
      | (refine aA nn ⟨?_,rfl,rfl⟩
         rw[yG hc (by rw[aAO];simp[xG] at *;omega)])
      | (refine .mk (i+1) [] ⟨om,λj c2 hj hc2=>?_⟩ (b9 ⟨aG,RF,trivial⟩) om
         rcases ZL j i with hj'|hj'
         · exact hall j c2 hj' hc2
         · have hji:j=i:=om
           rw[hji,hc] at hc2;cases hc2;simp[xG] at *;omega)
  · refine Z ?_
    refine aA nn ⟨?_,rfl,rfl⟩;have hk:i=s.length:=bk
    rw[yA ha h2 (by simp[upper];omega) λj c hc=>hall j c (by rw[hk];exact(Y4.1 hc).1) hc]
theorem SB(x:Nd):aU prog [] 186 [dM x] (.bool (kC x)):=by
 obtain⟨kind,name,lo,hi,ws,ls,vals,kids,⟨vk,vn,vs,vks⟩⟩:=x;refine aD bI func186 rfl ?_;rcases(show kind=0\/kind=1\/kind=2\/kind=3\/kind=4\/(kind≠0/\kind≠1/\kind≠2/\kind≠3/\kind≠4) by omega) with rfl|rfl|rfl|rfl|rfl|hk
 all_goals
  refine Z ?_;repeat' (refine aL (λh=>?_) (λh=>?_)<;>((try rw[h]);refine Z ?_))
 all_goals
  refine aA nn ⟨?_,rfl,rfl⟩;congr 1;rw[Zv];simp_all[kC,DX,aB,aN,eC,aAl]
theorem N8(x:Nd)(hx:tY x):aU prog [] 120 [dM x] (.bool (Go.Ax.d6 x)):=by
 have b1:=hx.lo;have b2:=hx.hi;have b3:=hx.weights;clear hx;obtain⟨kind,name,lo,hi,ws,ls,vals,kids,⟨vk,vn,vs,vks⟩⟩:=x;simp only[i64] at b1 b2 b3;have hnum:Go.Ax.d6 ⟨kind,name,lo,hi,ws,ls,vals,kids,.mk vk vn vs vks⟩=(decide (lo<=hi) && decide (-4611686018427387904<=lo) && decide (hi<=4611686018427387904) && decide (hi<lo+1099511627776) && ws.all λw=>decide (1<=w) && decide (w<=1000)):=rfl;generalize Go.Ax.d6 ⟨kind,name,lo,hi,ws,ls,vals,kids,.mk vk vn vs vks⟩=res at hnum;have hF:∀P:Prop,(res=true->P)->(¬P)->res=false:=λP h1 h2=>by
  cases hr:res with
  | false=>rfl
  | true=>exact absurd (h1 hr) h2
 refine aD bI func120 rfl ?_;refine Z ?_;refine aL (λh=>?_) (λh=>?_)
 .rw[h];refine Z ?_;refine aA nn ⟨?_,rfl,rfl⟩;rw[hF (lo<=hi) cz bk]
 have h1:lo<=hi:=su h
 rw[h];refine Z ?_;refine aL (λh=>?_) (λh=>?_)
 .rw[h];refine Z ?_;refine aA nn ⟨?_,rfl,rfl⟩;rw[hF (-4611686018427387904<=lo) cz bk]
 have h2 : -4611686018427387904<=lo:=su h
 rw[h];refine Z ?_;refine aL (λh=>?_) (λh=>?_)
 .rw[h];refine Z ?_;refine aA nn ⟨?_,rfl,rfl⟩;rw[hF (hi<=4611686018427387904) cz bk]
 have h3:hi<=4611686018427387904:=su h
 rw[h];have hw:IntKind.i64.wrap (lo+1099511627776)=lo+1099511627776:=w64 rfl oq;refine Z ?_;rw[hw];refine aL (λh=>?_) (λh=>?_)
 .refine Z ?_;refine aA nn ⟨?_,rfl,rfl⟩;rw[hF (hi<lo+1099511627776) cz bk]
 have h4:hi<lo+1099511627776:=su h
 refine Z ?_;refine bJ.at bI (λk:Nat=>k<=ws.length/\∀j w,j<k->ws[j]? = some w->1<=w/\w<=1000)
  (λk=>⟨[(1,.ptr 0 0 0),(3,.int .i64 k)],[(0,.row 59 12 [dM ⟨kind,name,lo,hi,ws,ls,vals,kids,.mk vk vn vs vks⟩])],1,48⟩) (λk=>ws.length-k) 0 [(0,0)] ⟨sq,sq⟩
  (aH _ rfl ⟨aF 0 ai,trivial⟩ ⟨aM,aG,trivial⟩) ?_
 rintro k ⟨hk,hall⟩;refine Z ?_;refine aL (λh=>?_) (λh=>?_)
 .have hlt:k<ws.length:=by rw[aN] at h;simpa using h
  have e1:(aY ws)[(k:Int).toNat]? = some (.int .i64 ws[k]):=ck
  have hg:ws[k]? = some ws[k]:=Yz hlt;generalize ws[k]=w at e1 hg;have hbad:(1<=w/\w<=1000->False)->res=false:=λhb=>hF (1<=w/\w<=1000) (by
   intro e;rw[hnum] at e;simp only[Y6,Z8,Zc] at e;exact e.2 w (Y5 hg)) hb
  refine Z ?_;refine aC e1 ?_;refine Z ?_;refine aL (λh=>?_) (λh=>?_)
  .rw[h];refine Z ?_;refine aA nn ⟨?_,rfl,rfl⟩;rw[hbad bk]
  .have g1:1<=w:=su h
   rw[h];refine Z ?_;refine aC e1 ?_;refine Z ?_;refine aL (λh=>?_) (λh=>?_)
   .refine Z ?_;refine aA nn ⟨?_,rfl,rfl⟩;rw[hbad bk]
   .have g2:w<=1000:=su h
    refine Z ?_;refine .mk (k+1) [(0,0)] ⟨om,λj w2 hj hw2=>?_⟩ (aH _ rfl ⟨aF 0 ai,trivial⟩ ⟨aM,RF,trivial⟩) om;rcases ZL j k with hj'|hj'
    .exact hall j w2 hj' hw2
    .have hjk:j=k:=om;rw[hjk,hg] at hw2;cases hw2;exact⟨g1,g2⟩
 .have hk':k=ws.length:=by rw[aN] at h;simp at h;omega
  refine Z ?_;refine aA nn ⟨?_,rfl,rfl⟩;rw[hnum];congr 1;symm;simp only[Y6,Z8,Zc];refine⟨⟨⟨⟨h1,h2⟩,h3⟩,h4⟩,λw hw=>?_⟩;obtain⟨j,hj⟩:=Zl hw;exact hall j w (by rw[hk'];exact(Y4.1 hj).1) hj
end Go.Proofs.YthggfhnnkclooaaGreatDoor
