/- A part of the proof. -/
import Derived.Test.YtidjhgajglebnaaGreatDoorAx22
set_option linter.unusedVariables false
set_option linter.unusedSimpArgs false
namespace Go.Proofs.YtidjhgajglebnaaGreatDoor
open Go Go.Ax Go.Proofs Tryz
set_option maxRecDepth 100000
set_option maxHeartbeats 16000000
set_option maxHeartbeats 16000000
set_option maxHeartbeats 16000000
set_option maxHeartbeats 16000000
set_option maxHeartbeats 16000000
set_option maxHeartbeats 16000000
set_option maxHeartbeats 16000000
end Go.Proofs.YtidjhgajglebnaaGreatDoor
namespace Go.Ax
open Go
structure Rx(x:Nd):Prop where
 ok:rJ x
 val:aY x.value<=1024
 vals:∀v∈x.values,aY v<=1024
 vlen:x.values.length<=1024
 klen:x.kids.length<=1025
 llen:x.labels.length<=256
 wlen:x.weights.length<=256
 lab:∀s∈x.labels,s∈vG
theorem AO:∀{l:List aT},dS l=0->∀v∈l,bS v=0
 | [],_,v,hv=>by simp at hv
 | a::r,h,v,hv=>by
  simp only[dS] at h;split at h
  ·rename_i h1;exact absurd h h1
  ·rename_i h1;rcases T6.1 hv with rfl|hv
   ·exact Decidable.not_not.1 h1
   ·exact AO h v hv
theorem AP{v:aT}(h:bS v=0):aY v<=1024:=by
 unfold bS at h;split at h
 ·omega
 ·split at h
  ·omega
  ·rename_i h1;rw[not_or] at h1;omega
theorem IM{v:aT}(h:CC v=true):aY v<=1024:=by
 obtain⟨k,n,s,ks⟩:=v;simp only[CC,Tz,UJ] at h;have:ks=[]:=Ux.1 h.2;subst this;simp[aY,bO]
theorem zX{ns:List Nd}(h:jQ ns):∀x∈ns,Rx x:=by
 intro x hx;obtain⟨j,hj⟩:=Ui hx;have hn:=pR ns h.valid j x hj;have hN:=lQ hn;have hg:=h.gen x hx;have hf:=iX hn;have hfe:dS (nL x)=0:=by
  unfold fF at hn;rw[T5 (by rw[hf];simp)] at hn;split at hn
  ·rename_i h1;exact absurd hn h1
  ·rename_i h1;exact Decidable.not_not.1 h1
 have hv:=AO hfe;unfold c7 at hf;simp only[Tz] at hf;obtain⟨⟨⟨⟨⟨⟨hu,hkd⟩,hki⟩,h2⟩,h3⟩,h4⟩,h5⟩:=hf;unfold jH at hu;simp only[Tz,U5,UJ] at hu h2 h4;have hul:=hu.1.1.2;have hz:=hu.1.1.1.1.1;have hvl:=hg.vals;refine⟨hg.ok, ?_,fun v hm=>AP (hv v (by unfold nL;exact U7 _ hm)),hvl, ?_, ?_, ?_,hg.labels⟩
 ·rcases hz with e|e
  ·exact AP (hv x.value (by unfold nL;rw[T7 e];simp))
  ·exact IM e
 ·by_cases e:x.kind=4
  ·have:=hN.bind e;omega
  ·have:=hN.klen e;omega
 ·rcases hul with e|e
  ·rcases h2 with h2|h2
   ·exact absurd e h2
   ·omega
  ·omega
 ·rcases hul with e|e
  ·rcases h2 with h2|h2
   ·exact absurd e h2
   ·omega
  ·omega
structure S3(LB:List (List UInt8))(x:Nd):Prop where
 ok:rJ x
 val:aY x.value<=1048576
 vals:∀v∈x.values,aY v<=1048576
 vlen:x.values.length<=2000
 klen:x.kids.length<=2000
 llen:x.labels.length<=1000
 lab:∀s∈x.labels,s∈LB
variable {LB:List (List UInt8)}
theorem FC(hLB:∀s∈vG,s∈LB){x:Nd}(h:Rx x):S3 LB x:=
 ⟨h.ok,by have:=h.val;omega,fun v hv=>by have:=h.vals v hv;omega,by have:=h.vlen;omega,by have:=h.klen;omega,by have:=h.llen;omega,fun s hs=>hLB s (h.lab s hs)⟩
theorem yW{ns:List Nd}(hLB:∀s∈LB,s.length<=19)(h:∀x∈ns,S3 LB x)(hl:ns.length<=1000):sO ns:=
 ⟨fun x hx=>(h x hx).ok,fun x hx=>(h x hx).val,fun x hx=>(h x hx).vals,fun x hx=>(h x hx).vlen,fun x hx=>(h x hx).klen,fun x hx=>(h x hx).llen,fun x hx s hs=>by have:=hLB s ((h x hx).lab s hs);omega,hl⟩
end Go.Ax
namespace Go.Ax
open Go
section
variable {A:List Nd}
end
end Go.Ax
namespace Go.Ax
open Go
structure Ft where
 cs:List Int
 val:aT
structure As(r:Tm)(f:Ft):Prop where
 val:r.val=f.val
 used:r.used=f.cs.length
 stop:r.stop = -1
section
variable {A:List Nd}
theorem VT.opt(h:VT A){i:Nat}{x:Nd}(hx:A[i]? = some x)(hk:x.kind=1∨x.kind=2):1<=Kw x:=by
 have hg:=h.node hx;unfold Kw;split
 ·have:=(cT hg.node.num).1;omega
 ·have:=(hg.opt.ch (by omega)).1;omega
end
end Go.Ax
namespace Go.Ax
open Go
end Go.Ax
