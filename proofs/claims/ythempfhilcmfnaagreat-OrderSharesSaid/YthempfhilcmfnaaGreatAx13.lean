/- A part of the proof. -/
import Derived.Test.YthempfhilcmfnaaGreatAx12
set_option linter.unusedVariables false
set_option linter.unusedSimpArgs false
namespace Go.Proofs.YthempfhilcmfnaaGreat
open Go Go.Ax Go.Proofs Tryz
set_option maxRecDepth 100000
set_option maxHeartbeats 8000000
theorem PA(s:List UInt8)(hs:s.length<=4294967296):a8 prog [] 115 [.str s] (.bool (fA s)):=by
  refine aL bC func115 rfl ?_;((conv=>whnf);repeat(refine Xg ?_;conv=>whnf));refine aO (fun h=>?_) (fun h=>?_)
  · rw[h]
    ((conv=>whnf);repeat(refine Xg ?_;conv=>whnf));refine aA nn ⟨?_,rfl,rfl⟩;rw[sR (by simp at h;rw[h];simp)]
  have h1:1<=s.length:=by
    rcases SN s.length with h'|h'
    · rw[h'] at h;simp at h
    · exact h'
  rw[h];((conv=>whnf);repeat(refine Xg ?_;conv=>whnf));refine aO (fun h=>?_) (fun h=>?_)
  · rw[h]
    ((conv=>whnf);repeat(refine Xg ?_;conv=>whnf));refine aA nn ⟨?_,rfl,rfl⟩;rw[qN (by simp at h;omega)]
  have h2:s.length<=16:=by simp at h;omega
  rw[h];obtain⟨a,ha⟩:∃a,s[0]? = some a:=⟨s[0],by simp⟩
  ((conv=>whnf);repeat(refine Xg ?_;conv=>whnf));refine aC ha ?_;((conv=>whnf);repeat(refine Xg ?_;conv=>whnf));refine aO (fun h=>?_) (fun h=>?_)
  · rw[h]
    ((conv=>whnf);repeat(refine Xg ?_;conv=>whnf));refine aA nn ⟨?_,rfl,rfl⟩;rw[jU ha (by simp[mX] at *;omega)]
  have h3:65<=(a.toNat:Int):=by simpa using h
  rw[h];((conv=>whnf);repeat(refine Xg ?_;conv=>whnf));refine aC ha ?_;((conv=>whnf);repeat(refine Xg ?_;conv=>whnf));refine aO (fun h=>?_) (fun h=>?_)
  · ((conv=>whnf);repeat(refine Xg ?_;conv=>whnf))
    refine aA nn ⟨?_,rfl,rfl⟩;rw[jU ha (by simp[mX] at *;omega)]
  have h4:(a.toNat:Int)<=90:=by simpa using h
  ((conv=>whnf);repeat(refine Xg ?_;conv=>whnf));refine a7.at bC (fun i:Nat=>i<=s.length/\∀j c,j<i->s[j]? = some c->uM c.toNat=true)
    (fun i=>⟨[(0,.str s),(3,.int .i64 i)],[],0,59⟩) (fun i=>s.length-i) 0 [] ⟨by simp,by simp⟩
    (bL ⟨aH,aH,trivial⟩) ?_
  rintro i ⟨hi,hall⟩;((conv=>whnf);repeat(refine Xg ?_;conv=>whnf));refine aO (fun h=>?_) (fun h=>?_)
  · have hlt:i<s.length:=by simpa using h
    obtain⟨c,hc⟩:∃c,s[i]? = some c:=⟨s[i],by simp[hlt]⟩
    have hc':s[(i:Int).toNat]? = some c:=by rw[Rq];exact hc
    ((conv=>whnf);repeat(refine Xg ?_;conv=>whnf));refine aC hc' ?_;((conv=>whnf);repeat(refine Xg ?_;conv=>whnf));repeat' (refine aO (fun h=>?_) (fun h=>?_)<;>((try rw[h]);(conv=>whnf);repeat(refine Xg ?_;conv=>whnf)))
    all_goals first
      | (refine aA nn ⟨?_,rfl,rfl⟩
         rw[vI hc (by rw[TS];simp[uM] at *;omega)])
      | (refine .mk (i+1) [] ⟨by omega,fun j c2 hj hc2=>?_⟩ (bL ⟨aH,⟨_,rfl,.wo⟩,trivial⟩) (by omega)
         rcases R9 j i with hj'|hj'
         · exact hall j c2 hj' hc2
         · have hji:j=i:=by omega
           rw[hji,hc] at hc2;cases hc2;simp[uM] at *;omega)
  · ((conv=>whnf);repeat(refine Xg ?_;conv=>whnf))
    refine aA nn ⟨?_,rfl,rfl⟩;have hk:i=s.length:=by simp at h;omega
    rw[vH ha h2 (by simp[mX];omega) fun j c hc=>hall j c (by rw[hk];exact(Rt.1 hc).1) hc]
theorem MF(x:Nd):a8 prog [] 114 [bU x] (.bool (iI x)):=by
 obtain⟨kind,name,lo,hi,ws,ls,vals,kids,⟨vk,vn,vs,vks⟩⟩:=x;refine aL bC func114 rfl ?_;rcases(show kind=0∨kind=1∨kind=2∨kind=3∨kind=4∨(kind≠0/\kind≠1/\kind≠2/\kind≠3/\kind≠4) by omega) with rfl|rfl|rfl|rfl|rfl|hk
 all_goals
  ((conv=>whnf);repeat(refine Xg ?_;conv=>whnf));repeat' (refine aO (fun h=>?_) (fun h=>?_)<;>((try rw[h]);(conv=>whnf);repeat(refine Xg ?_;conv=>whnf)))
 all_goals
  refine aA nn ⟨?_,rfl,rfl⟩;congr 1;rw[Sj];simp_all[iI,Bh,aF,aE,bX,S2]
theorem Ky(x:Nd)(hx:rL x):a8 prog [] 95 [bU x] (.bool (dW x)):=by
 have b1:=hx.lo;have b2:=hx.hi;have b3:=hx.weights;clear hx;obtain⟨kind,name,lo,hi,ws,ls,vals,kids,⟨vk,vn,vs,vks⟩⟩:=x;simp only[i64] at b1 b2 b3;have hnum:dW ⟨kind,name,lo,hi,ws,ls,vals,kids,.mk vk vn vs vks⟩=(decide (lo<=hi) && decide (-4611686018427387904<=lo) && decide (hi<=4611686018427387904) && decide (hi<lo+1099511627776) && ws.all fun w=>decide (1<=w) && decide (w<=1000)):=rfl;generalize dW ⟨kind,name,lo,hi,ws,ls,vals,kids,.mk vk vn vs vks⟩=res at hnum;have hF:∀P:Prop,(res=true->P)->(¬P)->res=false:=fun P h1 h2=>by
  cases hr:res with
  | false=>rfl
  | true=>exact absurd (h1 hr) h2
 refine aL bC func95 rfl ?_;((conv=>whnf);repeat(refine Xg ?_;conv=>whnf));refine aO (fun h=>?_) (fun h=>?_)
 ·rw[h];((conv=>whnf);repeat(refine Xg ?_;conv=>whnf));refine aA nn ⟨?_,rfl,rfl⟩;rw[hF (lo<=hi) (by intro e;rw[hnum] at e;simp at e;omega) (by simp at h;omega)]
 have h1:lo<=hi:=by simpa using h
 rw[h];((conv=>whnf);repeat(refine Xg ?_;conv=>whnf));refine aO (fun h=>?_) (fun h=>?_)
 ·rw[h];((conv=>whnf);repeat(refine Xg ?_;conv=>whnf));refine aA nn ⟨?_,rfl,rfl⟩;rw[hF (-4611686018427387904<=lo) (by intro e;rw[hnum] at e;simp at e;omega) (by simp at h;omega)]
 have h2 : -4611686018427387904<=lo:=by simpa using h
 rw[h];((conv=>whnf);repeat(refine Xg ?_;conv=>whnf));refine aO (fun h=>?_) (fun h=>?_)
 ·rw[h];((conv=>whnf);repeat(refine Xg ?_;conv=>whnf));refine aA nn ⟨?_,rfl,rfl⟩;rw[hF (hi<=4611686018427387904) (by intro e;rw[hnum] at e;simp at e;omega) (by simp at h;omega)]
 have h3:hi<=4611686018427387904:=by simpa using h
 rw[h];have hw:IntKind.i64.wrap (lo+1099511627776)=lo+1099511627776:=w64 rfl ⟨by omega,by omega⟩;((conv=>whnf);repeat(refine Xg ?_;conv=>whnf));rw[hw];refine aO (fun h=>?_) (fun h=>?_)
 ·((conv=>whnf);repeat(refine Xg ?_;conv=>whnf));refine aA nn ⟨?_,rfl,rfl⟩;rw[hF (hi<lo+1099511627776) (by intro e;rw[hnum] at e;simp at e;omega) (by simp at h;omega)]
 have h4:hi<lo+1099511627776:=by simpa using h
 ((conv=>whnf);repeat(refine Xg ?_;conv=>whnf));refine a7.at bC (fun k:Nat=>k<=ws.length/\∀j w,j<k->ws[j]? = some w->1<=w/\w<=1000)
  (fun k=>⟨[(1,.ptr 0 0 0),(3,.int .i64 k)],[(0,.row 62 12 [bU ⟨kind,name,lo,hi,ws,ls,vals,kids,.mk vk vn vs vks⟩])],1,48⟩) (fun k=>ws.length-k) 0 [(0,0)] ⟨by simp,by simp⟩
  (aJ _ rfl ⟨⟨0,_,rfl,rfl,.same (.cons (aW _) .nil)⟩,trivial⟩ ⟨⟨_,rfl,.ptr 0 0 0 0 rfl⟩,aH,trivial⟩) ?_
 rintro k ⟨hk,hall⟩;((conv=>whnf);repeat(refine Xg ?_;conv=>whnf));refine aO (fun h=>?_) (fun h=>?_)
 ·have hlt:k<ws.length:=by rw[aE] at h;simpa using h
  have e1:(aI ws)[(k:Int).toNat]? = some (.int .i64 ws[k]):=by rw[Rq,bG,Rm hlt];rfl
  have hg:ws[k]? = some ws[k]:=Rm hlt;generalize ws[k]=w at e1 hg;have hbad:(1<=w/\w<=1000->False)->res=false:=fun hb=>hF (1<=w/\w<=1000) (by
   intro e;rw[hnum] at e;simp only[Rr,S5,SP] at e;exact e.2 w (R3 hg)) hb
  ((conv=>whnf);repeat(refine Xg ?_;conv=>whnf));refine aC e1 ?_;((conv=>whnf);repeat(refine Xg ?_;conv=>whnf));refine aO (fun h=>?_) (fun h=>?_)
  ·rw[h];((conv=>whnf);repeat(refine Xg ?_;conv=>whnf));refine aA nn ⟨?_,rfl,rfl⟩;rw[hbad (by simp at h;omega)]
  ·have g1:1<=w:=by simpa using h
   rw[h];((conv=>whnf);repeat(refine Xg ?_;conv=>whnf));refine aC e1 ?_;((conv=>whnf);repeat(refine Xg ?_;conv=>whnf));refine aO (fun h=>?_) (fun h=>?_)
   ·((conv=>whnf);repeat(refine Xg ?_;conv=>whnf));refine aA nn ⟨?_,rfl,rfl⟩;rw[hbad (by simp at h;omega)]
   ·have g2:w<=1000:=by simpa using h
    ((conv=>whnf);repeat(refine Xg ?_;conv=>whnf));refine .mk (k+1) [(0,0)] ⟨by omega,fun j w2 hj hw2=>?_⟩ (aJ _ rfl ⟨⟨0,_,rfl,rfl,.same (.cons (aW _) .nil)⟩,trivial⟩ ⟨⟨_,rfl,.ptr 0 0 0 0 rfl⟩,⟨_,rfl,.wo⟩,trivial⟩) (by omega);rcases R9 j k with hj'|hj'
    ·exact hall j w2 hj' hw2
    ·have hjk:j=k:=by omega
     rw[hjk,hg] at hw2;cases hw2;exact⟨g1,g2⟩
 ·have hk':k=ws.length:=by rw[aE] at h;simp at h;omega
  ((conv=>whnf);repeat(refine Xg ?_;conv=>whnf));refine aA nn ⟨?_,rfl,rfl⟩;rw[hnum];congr 1;symm;simp only[Rr,S5,SP];refine⟨⟨⟨⟨h1,h2⟩,h3⟩,h4⟩,fun w hw=>?_⟩;obtain⟨j,hj⟩:=Sb hw;exact hall j w (by rw[hk'];exact(Rt.1 hj).1) hj
end Go.Proofs.YthempfhilcmfnaaGreat
