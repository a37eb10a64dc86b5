/- A part of the proof. -/
import Derived.Test.YtobknjmfgjaehaaGreatDoorAx11
set_option linter.unusedVariables false
set_option linter.unusedSimpArgs false
set_option linter.unusedSectionVars false
namespace Go.Proofs.YtobknjmfgjaehaaGreatDoor
open Go Go.Ax Go.Proofs Tryz
set_option maxRecDepth 100000
set_option maxHeartbeats 16000000
def Qx(A:List Nd):AV:=.agg [.ip (.agg [.il 12 (aW A)]),.il 1 (aT (aY A)),.il 4 (aO (cO A))]
def wk(A:List Nd):AV:=.ip (Qx A)
theorem NF(A:List Nd):NN (Qx A):=.agg' (.cons (.ip' (.agg' (.cons (.il' (aU A)) .nil))) (.cons (.il' (aQ _)) (.cons (.il' (aS _)) .nil)))
theorem jQ(A:List Nd):NN (wk A):=.ip' (NF A)
theorem MP{A:List Nd}{i:Nat}(hi:i<A.length):(aT (aY A))[((i:Nat):Int).toNat]? = some (.int .i64 (dK (aY A) i)):=by
 have h:i<(aY A).length:=by rw[Go.Ax.d8];exact hi
 rw[Int.toNat_natCast,bF,List.getElem?_eq_getElem h];unfold dK;rw[Int.toNat_natCast,List.getD_eq_getElem?_getD,List.getElem?_eq_getElem h];rfl
theorem LX{A:List Nd}{i:Nat}(hi:i<A.length):(aO (cO A))[((i:Nat):Int).toNat]? = some (bK (FA (cO A) i)):=by
 have h:i<(cO A).length:=by rw[g7];exact hi
 rw[Int.toNat_natCast,gK,List.getElem?_eq_getElem h];unfold FA;rw[List.getD_eq_getElem?_getD,List.getElem?_eq_getElem h];rfl
theorem oL{A:List Nd}{i:Nat}(hi:i<A.length):(aW A)[((i:Nat):Int).toNat]? = some (cH (aI A i)):=by
 rw[Int.toNat_natCast,mI,dD hi];rfl
theorem E5{A:List Nd}{i:Nat}(hi:i<A.length):a8 prog [] 127 [wk A,.int .i64 i] (.int .i64 (dK (aY A) i)):=by
 have e:=MP hi;refine aM bG func127 rfl ?_;refine Rr ?_;refine aC e ?_;refine Rr ?_;exact aB nn ⟨rfl,rfl,rfl⟩
theorem OS{A:List Nd}{i:Nat}(hi:i<A.length):a8 prog [] 128 [wk A,.int .i64 i] (bK (FA (cO A) i)):=by
 have e:=LX hi;generalize FA (cO A) i=v at *;obtain⟨v1,v2,v3,v4⟩:=v;refine aM bG func128 rfl ?_;refine Rr ?_;refine aC e ?_;refine Rr ?_;exact aB nn ⟨rfl,rfl,rfl⟩
theorem Kh(x:Nd)(h:x.kind=1->dH x=true):a8 prog [] 125 [.ip (cH x)] (.int .i64 (fY x)):=by
 have hr:x.kind=1->x.lo<=x.hi/\x.hi<x.lo+1099511627776:=fun e=>⟨(cD (h e)).1,(cD (h e)).2.2.2⟩
 have ho:fY x=if x.kind=1 then x.hi-x.lo+1 else x.kids.length:=rfl
 clear h;obtain⟨kind,name,lo,hi,ws,ls,vals,kids,⟨vk,vn,vs,vks⟩⟩:=x;simp only at hr ho;generalize fY ⟨kind,name,lo,hi,ws,ls,vals,kids,.mk vk vn vs vks⟩=o at *;refine aM bG func125 rfl ?_;refine Rr ?_;refine aH (fun h=>?_) (fun h=>?_)
 ·have h1:kind=1:=by simpa using h
  obtain⟨r1,r2⟩:=hr h1;rw[if_pos h1] at ho;have hw:IntKind.i64.wrap (hi-lo)=hi-lo:=cK ⟨om,om⟩;have hw2:IntKind.i64.wrap (hi-lo+1)=o:=by rw[cK ⟨om,om⟩,ho]
  refine Rt ?_;rw[hw,hw2];exact aB nn ⟨rfl,rfl,rfl⟩
 ·have h1:¬kind=1:=by simpa using h
  rw[if_neg h1] at ho;refine Rr ?_;exact bU (.int (by rw[ho,aD])) ⟨rfl,rfl,rfl⟩
theorem O8(x:Nd)(v:a7)(hl:x.values.length<=4294967296)(hok:∀a∈x.values,gD a)(hs:kL x.values):a8 prog [] 129 [.ip (cH x),bK v] (.int .i64 (((dL x.values v).1+1:Nat):Int)):=by
 have hf:=P0 x.values v hl hok hs;have hle:=v7 x.values v;obtain⟨kind,name,lo,hi,ws,ls,vals,kids,⟨vk,vn,vs,vks⟩⟩:=x;simp only at hf hle hl ⊢;generalize (dL vals v).1=k at *;generalize (dL vals v).2=b at *;obtain⟨v1,v2,v3,v4⟩:=v;refine aM bG func129 rfl ?_;refine Rr ?_;refine hf.go ?_;refine Rt ?_;exact bU (.w64 om ⟨om,om⟩) ⟨rfl,rfl,rfl⟩
end Go.Proofs.YtobknjmfgjaehaaGreatDoor
