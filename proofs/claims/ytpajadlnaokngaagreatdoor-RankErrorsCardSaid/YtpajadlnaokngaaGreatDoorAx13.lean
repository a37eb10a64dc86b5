/- A part of the proof. -/
import Derived.Test.YtpajadlnaokngaaGreatDoorAx12
import Derived.Test.YtpajadlnaokngaaGreatDoorProg
import Derived.KernelRfl
import Derived.Lib.ItoaMem
import Derived.Lib.AtoiAllCases
set_option linter.unusedVariables false
set_option linter.unusedSimpArgs false
set_option linter.unusedSectionVars false
namespace Go.Proofs.YtpajadlnaokngaaGreatDoor
open Go Go.Ax Go.Proofs Tryz
set_option maxRecDepth 100000
set_option maxHeartbeats 8000000
theorem Iv(l m:List aT)(hl:l.length<=4294967296)(hok:∀a∈l,gC a):aZ prog [] 136 [.il 4 (aO l),.il 4 (aO m)] (.bool (cS l m)):=by
 refine aN bI func136 rfl ?_;refine Rr ?_;refine aE (fun h=>?_) (fun h=>?_)
 ·refine Rr ?_;refine aA nn ⟨?_,rfl,rfl⟩;rw[aB,aB] at h;rw[wP (by simp at h;omega)]
 have hlen:l.length=m.length:=by rw[aB,aB] at h;simp at h;omega
 refine Rr ?_;refine a6.at bI (fun k:Nat=>k<=l.length/\cS l m=cS (l.drop k) (m.drop k))
  (fun k=>⟨[(0,.il 4 (aO l)),(1,.il 4 (aO m)),(5,.int .i64 k)],[],0,27⟩) (fun k=>l.length-k) 0 [] ⟨by simp,by simp⟩
  (bV ⟨aG,aG,aG,trivial⟩) ?_
 rintro k ⟨hk,hs⟩;refine Rr ?_;refine aE (fun h=>?_) (fun h=>?_)
 ·have hlt:k<l.length:=Cj h;obtain⟨p1,p2,p3,p4,pm,pg,pe,ep⟩:=bK (l:=l) (k:=k) hlt;obtain⟨q1,q2,q3,q4,qm,qg,qe,eq⟩:=bK (l:=m) (k:=k) om;have hc:=sL (.mk p1 p2 p3 p4) (.mk q1 q2 q3 q4) (hok _ pm);rw[List.drop_eq_getElem_cons hlt,List.drop_eq_getElem_cons (show k<m.length by omega),pe,qe,cS] at hs;generalize bU (.mk p1 p2 p3 p4) (.mk q1 q2 q3 q4)=c at hc hs;refine Rr ?_;repeat((first|refine aD ep ?_|refine aD eq ?_|refine bW ?_);refine Rr ?_)
  refine hc.go ?_;refine Rr ?_;repeat((first|refine aD ep ?_|refine aD eq ?_|refine bW ?_);refine Rr ?_)
  refine aE (fun h=>?_) (fun h=>?_)
  ·refine Rr ?_;refine aA nn ⟨?_,rfl,rfl⟩;rw[hs,Nz (by simpa using h)];rfl
  ·refine Rr ?_;refine .mk (k+1) [] ⟨om, ?_⟩ (bV ⟨aG,aG,⟨_,rfl,.w64 om ⟨om,om⟩⟩,trivial⟩) om;rw[hs,NB (by simpa using h),OO]
 ·have hge:l.length<=k:=Ct h;refine Rr ?_;refine aA nn ⟨?_,rfl,rfl⟩;rw[hs,NU om,NU om,cS]
theorem Ko(x:Nd)(ks:List aT):aZ prog [] 267 [bN x,.il 4 (aO ks)] (cD (dQ x.name ks)):=by
 obtain⟨kind,name,lo,hi,ws,ls,vals,kids,⟨vk,vn,vs,vks⟩⟩:=x;refine aN bI func267 rfl ?_;refine Rr ?_;refine aE (fun h=>?_) (fun h=>?_)
 ·have h:name=[]:=by simpa using h
  refine Rr ?_;exact lR (r':=cD (.mk 2 0 [] ks)) (.same _ nn) ⟨by rw[dQ,Mr h],rfl,rfl⟩
 ·have h:¬name=[]:=by simpa using h
  refine Rr ?_;exact lR (r':=cD (.mk 3 0 name ks)) (.same _ nn) ⟨by rw[dQ,Mm h],rfl,rfl⟩
theorem LL(i:Nat)(x:Nd)(hi:i<=4294967296)(hx:oH x)(hvl:x.values.length<=4294967290):aZ prog [] 60 [.int .i64 i,bN x] (.int .i64 (Go.Ax.d8 i x)):=by
 have h1:=Fx i x hi hx;have h2:=IB x hx;have hval:∀a∈k6 x,aZ prog [] 133 [cD a] (.int .i64 (Go.Ax.d9 a)):=by
  intro a ha;have key:gC a/\aU a<=4294967296:=by
   unfold k6 at ha;rcases Mv.1 ha with h|h
   ·split at h
    ·simp at h;rw[h];exact⟨hx.value,hx.valueS⟩
    ·cases h
   ·exact hx.valuesI a h
  exact KS a key.1 om
 have hres:Go.Ax.d8 i x=if cK i x=false then 1 else if c7 (k6 x)≠0 then c7 (k6 x) else if cZ x=false then 5 else 0:=rfl
 generalize Go.Ax.d8 i x=res at hres;generalize cK i x=fb at h1 hres;generalize cZ x=nb at h2 hres;clear hx;obtain⟨kind,name,lo,hi,ws,ls,vals,kids,⟨vk,vn,vs,vks⟩⟩:=x;simp only at hvl;have hown:k6 ⟨kind,name,lo,hi,ws,ls,vals,kids,.mk vk vn vs vks⟩=(if kind=0 then [aT.mk vk vn vs vks] else [])++vals:=rfl;generalize k6 ⟨kind,name,lo,hi,ws,ls,vals,kids,.mk vk vn vs vks⟩=own at hval hres hown;have hol:own.length<=4294967291:=by rw[hown];split<;>simp<;>omega
 refine aN bI func60 rfl ?_;refine Rr ?_;refine h1.go ?_ (.cons (.int _ _) (.cons (aQ _) .nil));cases fb with
 | false=>
  refine Rr ?_;refine aA nn ⟨?_,rfl,rfl⟩;rw[hres,Mr rfl]
 | true=>
  refine Rr ?_;refine aE (fun h=>?_) (fun h=>?_)
  case' refine_1=>
   have hk:kind=0:=by simpa using h
   rw[Mr hk] at hown;refine Rr ?_;refine aM (bO rfl rfl (by simp) (by simp[aB];omega)) ?_;refine Rr ?_;refine a6.at bI (fun k:Nat=>k<=own.length/\c7 own=c7 (own.drop k))
    (fun k=>⟨[(3,.ptr 0 0 0),(6,.sl 1 0 own.length),(7,.int .i64 k)],[(0,.row 59 12 [bN ⟨kind,name,lo,hi,ws,ls,vals,kids,.mk vk vn vs vks⟩]),(1,.row 57 4 (aO own))],2,45⟩) (fun k=>own.length-k) 0 [(0,0),(3,1)] ⟨by simp,by simp⟩
    (aH _ rfl ⟨aI 0 (.cons (aQ _) .nil),⟨3,_,rfl,rfl,.eq cG (by rw[hown];rfl)⟩,trivial⟩ ⟨aL,⟨_,rfl,.slE rfl (by rw[hown];simp[aB];omega)⟩,aG,trivial⟩) ?_
  case' refine_2=>
   have hk:¬kind=0:=by simpa using h
   rw[Mm hk] at hown;refine Rr ?_;refine aM (sJ rfl (by simp[aB];omega)) ?_;refine Rr ?_;refine a6.at bI (fun k:Nat=>k<=own.length/\c7 own=c7 (own.drop k))
    (fun k=>⟨[(3,.ptr 0 0 0),(6,.sl 1 0 own.length),(7,.int .i64 k)],[(0,.row 59 12 [bN ⟨kind,name,lo,hi,ws,ls,vals,kids,.mk vk vn vs vks⟩]),(1,.row 57 4 (aO own))],2,45⟩) (fun k=>own.length-k) 0 [(0,0),(1,1)] ⟨by simp,by simp⟩
    (aH _ rfl ⟨aI 0 (.cons (aQ _) .nil),⟨1,_,rfl,rfl,.eq cG (by rw[hown];rfl)⟩,trivial⟩ ⟨aL,⟨_,rfl,.slE rfl (by rw[hown];simp[aB])⟩,aG,trivial⟩) ?_
  all_goals
   clear h hown hk;rintro k ⟨hk,hf⟩;refine Rr ?_;refine aE (fun h=>?_) (fun h=>?_)
   ·have hlt:k<own.length:=by simpa using h
    obtain⟨p1,p2,p3,p4,pm,pg,pe,ep,bp⟩:=JB (l:=own) (k:=k) (n:=own.length) hlt rfl;have hv:=hval _ pm;rw[List.drop_eq_getElem_cons hlt,pe,c7] at hf;generalize Go.Ax.d9 (.mk p1 p2 p3 p4)=e at hv hf;refine Rr ?_;repeat((first|refine aM bp ?_|refine aD ep ?_);refine Rr ?_)
    refine hv.go ?_;refine Rr ?_;refine aE (fun h=>?_) (fun h=>?_)
    ·have h:e≠0:=by simpa using h
     refine Rr ?_;refine aA nn ⟨?_,rfl,rfl⟩;rw[Mr h] at hf;rw[hres,Mm (by simp),hf,Mr h]
    ·have h:¬e≠0:=by simpa using h
     rw[Mm h] at hf;refine Rr ?_;exact .mk (k+1) [(0,0),(1,1)] ⟨om,hf⟩ (aH _ rfl ⟨aI 0 (.cons (aQ _) .nil),aI 1 cG,trivial⟩ ⟨aL,⟨_,rfl,.sl 1 1 0 _ rfl⟩,⟨_,rfl,.w64 om ⟨om,om⟩⟩,trivial⟩) om
   ·have hge:own.length<=k:=by simpa using h
    rw[NU hge,c7] at hf;refine Rr ?_;refine h2.go ?_ (.cons (aQ _) .nil);cases nb with
    | false=>
     refine Rr ?_;refine aA nn ⟨?_,rfl,rfl⟩;rw[hres,Mm (by simp),hf,Mm (by simp),Mr rfl]
    | true=>
     refine Rr ?_;refine aA nn ⟨?_,rfl,rfl⟩;rw[hres,Mm (by simp),hf,Mm (by simp),Mm (by simp)]
set_option maxHeartbeats 8000000
theorem Gp(bs:List Int)(x:Nd)(hx:oH x)(hbl:bs.length<=1000000)(hb:∀y∈bs,0<=y/\y<=1024)(hk:∀(j:Nat) (k:Int),x.kids[j]? = some k->0<=k/\k<bs.length)(h4:4<=x.kind->0<x.kids.length)(hkind:0<=x.kind/\x.kind<=4) :
  aF prog [] 61 [.sl 0 0 bs.length,bN x] [(0,.row 3 1 (aX bs))] 1 fun r m _=>∃(len:Nat) (ys:List AV),r = .sl 1 0 len/\m=[(1,.row 3 1 ys)]/\jK ys/\(len=bs.length+1/\ys=aX (bs++[Go.Ax.f9 bs x])):=by
 have b1:=hx.kids;have b2:=hx.value;have b3:=hx.valueS;clear hx;have hat:=iY (b:=bs) (M:=1024) om hb;have hsum:=fU (b:=bs) (M:=1024) om hb;have hmost:=gX (b:=bs) (M:=1024) om hb;obtain⟨kind,name,lo,hi,ws,ls,vals,kids,⟨vk,vn,vs,vks⟩⟩:=x;simp only at b1 b2 b3 hk h4 hkind;have hfin:∀(v:Int) (m:aK) (n id:Nat) (e:Int),lk m id=some (.row 3 1 (aX bs++[.int .i64 e]))->1<=id->e=v->v=Go.Ax.f9 bs ⟨kind,name,lo,hi,ws,ls,vals,kids,.mk vk vn vs vks⟩ ->
   mJ 1 (fun r m _=>∃(len:Nat) (ys:List AV),r = .sl 1 0 len/\m=[(1,.row 3 1 ys)]/\jK ys/\(len=bs.length+1/\ys=aX (bs++[Go.Ax.f9 bs ⟨kind,name,lo,hi,ws,ls,vals,kids,.mk vk vn vs vks⟩]))) (.sl id 0 (bs.length+1)) m n:=by
  intro v m n id e hid h1 he hv;refine cA (n':=2) (m':=[(1,.row 3 1 (aX (bs++[v])))]) [(id,1)] ?_ ⟨⟨id,_,by simp[lk],hid,.eq (aS _) (by rw[he];simp[aX])⟩,trivial⟩ (.sl id 1 0 _ (by simp[lk])) ⟨_,_,rfl,rfl,aS _,rfl,by rw[hv]⟩;simp[pW,zS,pU,tP,sP]
 refine aN bI func61 rfl ?_;refine Rr ?_;refine a6.at bI (fun k:Nat=>k<=kids.length)
  (fun k=>⟨[(0,.sl 0 0 bs.length),(3,.ptr 1 0 0),(5,.int .i64 (0+eU bs (kids.take k))),(6,.int .i64 (bZ bs (if kind=2 then kids.take k else(kids.take k).drop 1))),(7,.int .i64 k)],[(0,.row 3 1 (aX bs)),(1,.row 59 12 [bN ⟨kind,name,lo,hi,ws,ls,vals,kids,.mk vk vn vs vks⟩])],2,74⟩) (fun k=>kids.length-k) 0 [(0,0),(1,1)] (by simp)
  (aH _ rfl ⟨aI 0 cG,aI 1 (.cons (aQ _) .nil),trivial⟩ ⟨⟨_,rfl,.sl 0 0 0 _ rfl⟩,aL,⟨_,rfl,.int rfl⟩,⟨_,rfl,.int (by split<;>rfl)⟩,aG,trivial⟩) ?_
 intro k hkl;have hs1:=hsum (kids.take k);have hlen:(kids.take k).length=k:=by simp;omega
 rw[hlen] at hs1;refine Rr ?_;refine aE (fun h=>?_) (fun h=>?_)
 ·have hlt:k<kids.length:=by rw[aC] at h;simpa using h
  have e1:(aX kids)[(k:Int).toNat]? = some (.int .i64 kids[k]):=by rw[Mo,bL,Mf hlt];rfl
  have hg:kids[k]? = some kids[k]:=Mf hlt;have hst:=o8 (b:=bs) hlt;have hmt:=mI (b:=bs) hlt;have hmd:=kU (b:=bs) hlt;generalize kids[k]=q at e1 hg hst hmt hmd;obtain⟨q1,q2⟩:=hk k q hg;have hq:=hat q;obtain⟨qn,rfl⟩:=Mx q1;have hqn:qn<bs.length:=om;have e2:(aX bs)[0+(qn:Int).toNat]? = some (.int .i64 (eB bs qn)):=by rw[NS,Mo,bL,Mf hqn];simp[eB,hqn]
  have bq:Nat.blt (qn:Int).toNat bs.length=true:=Ml (by simp;omega);generalize eB bs qn=av at e2 hst hmt hmd hq;refine Rr ?_;repeat((first|refine aD e1 ?_|refine aM bq ?_|refine aD e2 ?_);refine Rr ?_)
  have hw:IntKind.i64.wrap (0+eU bs (kids.take k)+av)=0+eU bs (kids.take (k+1)):=w64 om ⟨om,om⟩;refine aE (fun h=>?_) (fun h=>?_)
  ·have h2:kind=2:=by simpa using h
   rw[h];refine Rr ?_;exact .mk (k+1) [(0,0),(1,1)] om (aH _ rfl ⟨aI 0 cG,aI 1 (.cons (aQ _) .nil),trivial⟩ ⟨⟨_,rfl,.sl 0 0 0 _ rfl⟩,aL,⟨_,rfl,.int hw⟩,⟨_,rfl,.int (by rw[Mr h2,Mr h2,hmt];simp;omega)⟩,⟨_,rfl,.w64 om ⟨om,om⟩⟩,trivial⟩) om
  ·have h2:¬kind=2:=by simpa using h
   rw[h];refine Rr ?_;refine aE (fun h=>?_) (fun h=>?_)
   ·have h3:0<k:=by simp at h;omega
    refine Rr ?_;exact .mk (k+1) [(0,0),(1,1)] om (aH _ rfl ⟨aI 0 cG,aI 1 (.cons (aQ _) .nil),trivial⟩ ⟨⟨_,rfl,.sl 0 0 0 _ rfl⟩,aL,⟨_,rfl,.int hw⟩,⟨_,rfl,.int (by rw[Mm h2,Mm h2,hmd h3];simp;omega)⟩,⟨_,rfl,.w64 om ⟨om,om⟩⟩,trivial⟩) om
   ·have h3:k=0:=by simp at h;omega
    refine Rr ?_;exact .mk (k+1) [(0,0),(1,1)] om (aH _ rfl ⟨aI 0 cG,aI 1 (.cons (aQ _) .nil),trivial⟩ ⟨⟨_,rfl,.sl 0 0 0 _ rfl⟩,aL,⟨_,rfl,.int hw⟩,⟨_,rfl,.int (by rw[Mm h2,Mm h2,h3];cases kids<;>simp)⟩,⟨_,rfl,.w64 om ⟨om,om⟩⟩,trivial⟩) om
 ·have hke:k=kids.length:=by rw[aC] at h;simp at h;omega
  rw[hke,M2] at *;have hm1:=hmost kids;have hm2:=hmost (kids.drop 1);have hs2:=hsum kids;clear hke h;rcases(show kind=0∨kind=1∨kind=2∨kind=3∨kind=4 by omega) with rfl|rfl|rfl|rfl|rfl
  ·refine Rr ?_;refine aM (bO rfl rfl (by rw[aC]) (by simp;omega)) ?_;refine Rr ?_;exact hfin 0 _ _ _ _ rfl (by decide) rfl rfl
  ·refine Rr ?_;refine aM (bO rfl rfl (by rw[aC]) (by simp;omega)) ?_;refine Rr ?_;exact hfin 1 _ _ _ _ rfl (by decide) rfl rfl
  ·rw[Mr rfl] at *;refine Rr ?_;refine aM (bO rfl rfl (by rw[aC]) (by simp;omega)) ?_;refine Rr ?_;exact hfin (1+bZ bs kids) _ _ _ _ rfl (by decide) (w64 rfl ⟨om,om⟩) rfl
  ·refine Rr ?_;refine aM (bO rfl rfl (by rw[aC]) (by simp;omega)) ?_;refine Rr ?_;exact hfin (eU bs kids) _ _ _ _ rfl (by decide) om rfl
  ·rw[Mm om] at *;have hpos:0<kids.length:=h4 om;have e1:(aX kids)[(0:Int).toNat]? = some (.int .i64 (kids.getD 0 0)):=by rw[show (0:Int).toNat=0 from rfl,bL,Mf hpos];simp[hpos]
   obtain⟨q1,q2⟩:=hk 0 (kids.getD 0 0) (by simp[hpos]);have hval:Go.Ax.f9 bs ⟨4,name,lo,hi,ws,ls,vals,kids,.mk vk vn vs vks⟩=eB bs (kids.getD 0 0)+bZ bs (kids.drop 1):=rfl;generalize kids.getD 0 0=q at e1 q1 q2 hval;have hq:=hat q;obtain⟨qn,rfl⟩:=Mx q1;have hqn:qn<bs.length:=om;have e2:(aX bs)[0+(qn:Int).toNat]? = some (.int .i64 (eB bs qn)):=by rw[NS,Mo,bL,Mf hqn];simp[eB,hqn]
   have bq:Nat.blt (qn:Int).toNat bs.length=true:=Ml (by simp;omega);generalize eB bs qn=av at e2 hval hq;refine Rr ?_;repeat((first|refine aD e1 ?_|refine aM bq ?_|refine aD e2 ?_);refine Rr ?_)
   refine aM (bO rfl rfl (by rw[aC]) (by simp;omega)) ?_;refine Rr ?_;exact hfin (av+bZ bs (kids.drop 1)) _ _ _ _ rfl (by decide) (w64 rfl ⟨om,om⟩) hval.symm
theorem KD(bs:List Int)(x:Nd)(hx:oH x)(hbl:bs.length<=1000000)(hb:∀y∈bs,0<=y/\y<=1024)(hk:∀(j:Nat) (k:Int),x.kids[j]? = some k->0<=k/\k<bs.length)(h4:4<=x.kind->0<x.kids.length)(hkind:0<=x.kind/\x.kind<=4) :
  aF prog [] 62 [.sl 0 0 bs.length,bN x] [(0,.row 3 1 (aX bs))] 1 fun r m _=>∃(len:Nat) (ys:List AV),r = .sl 1 0 len/\m=[(1,.row 3 1 ys)]/\jK ys/\(len=bs.length+1/\ys=aX (bs++[iH bs x])):=by
 have b1:=hx.kids;have b2:=hx.value;have b3:=hx.valueS;clear hx;have hat:=iY (b:=bs) (M:=1024) om hb;have hsum:=fU (b:=bs) (M:=1024) om hb;have hmost:=gX (b:=bs) (M:=1024) om hb;obtain⟨kind,name,lo,hi,ws,ls,vals,kids,⟨vk,vn,vs,vks⟩⟩:=x;simp only at b1 b2 b3 hk h4 hkind;have hfin:∀(v:Int) (m:aK) (n id:Nat) (e:Int),lk m id=some (.row 3 1 (aX bs++[.int .i64 e]))->1<=id->e=v->v=iH bs ⟨kind,name,lo,hi,ws,ls,vals,kids,.mk vk vn vs vks⟩ ->
   mJ 1 (fun r m _=>∃(len:Nat) (ys:List AV),r = .sl 1 0 len/\m=[(1,.row 3 1 ys)]/\jK ys/\(len=bs.length+1/\ys=aX (bs++[iH bs ⟨kind,name,lo,hi,ws,ls,vals,kids,.mk vk vn vs vks⟩]))) (.sl id 0 (bs.length+1)) m n:=by
  intro v m n id e hid h1 he hv;refine cA (n':=2) (m':=[(1,.row 3 1 (aX (bs++[v])))]) [(id,1)] ?_ ⟨⟨id,_,by simp[lk],hid,.eq (aS _) (by rw[he];simp[aX])⟩,trivial⟩ (.sl id 1 0 _ (by simp[lk])) ⟨_,_,rfl,rfl,aS _,rfl,by rw[hv]⟩;simp[pW,zS,pU,tP,sP]
 refine aN bI func62 rfl ?_;refine Rr ?_;refine a6.at bI (fun k:Nat=>k<=kids.length)
  (fun k=>⟨[(0,.sl 0 0 bs.length),(3,.ptr 1 0 0),(5,.int .i64 (1+eU bs (kids.take k))),(6,.int .i64 (bZ bs (if kind=2 then kids.take k else(kids.take k).drop 1))),(7,.int .i64 k)],[(0,.row 3 1 (aX bs)),(1,.row 59 12 [bN ⟨kind,name,lo,hi,ws,ls,vals,kids,.mk vk vn vs vks⟩])],2,62⟩) (fun k=>kids.length-k) 0 [(0,0),(1,1)] (by simp)
  (aH _ rfl ⟨aI 0 cG,aI 1 (.cons (aQ _) .nil),trivial⟩ ⟨⟨_,rfl,.sl 0 0 0 _ rfl⟩,aL,⟨_,rfl,.int rfl⟩,⟨_,rfl,.int (by split<;>rfl)⟩,aG,trivial⟩) ?_
 intro k hkl;have hs1:=hsum (kids.take k);have hlen:(kids.take k).length=k:=by simp;omega
 rw[hlen] at hs1;refine Rr ?_;refine aE (fun h=>?_) (fun h=>?_)
 ·have hlt:k<kids.length:=by rw[aC] at h;simpa using h
  have e1:(aX kids)[(k:Int).toNat]? = some (.int .i64 kids[k]):=by rw[Mo,bL,Mf hlt];rfl
  have hg:kids[k]? = some kids[k]:=Mf hlt;have hst:=o8 (b:=bs) hlt;have hmt:=mI (b:=bs) hlt;have hmd:=kU (b:=bs) hlt;generalize kids[k]=q at e1 hg hst hmt hmd;obtain⟨q1,q2⟩:=hk k q hg;have hq:=hat q;obtain⟨qn,rfl⟩:=Mx q1;have hqn:qn<bs.length:=om;have e2:(aX bs)[0+(qn:Int).toNat]? = some (.int .i64 (eB bs qn)):=by rw[NS,Mo,bL,Mf hqn];simp[eB,hqn]
  have bq:Nat.blt (qn:Int).toNat bs.length=true:=Ml (by simp;omega);generalize eB bs qn=av at e2 hst hmt hmd hq;refine Rr ?_;repeat((first|refine aD e1 ?_|refine aM bq ?_|refine aD e2 ?_);refine Rr ?_)
  have hw:IntKind.i64.wrap (1+eU bs (kids.take k)+av)=1+eU bs (kids.take (k+1)):=w64 om ⟨om,om⟩;refine aE (fun h=>?_) (fun h=>?_)
  ·have h2:kind=2:=by simpa using h
   rw[h];refine Rr ?_;exact .mk (k+1) [(0,0),(1,1)] om (aH _ rfl ⟨aI 0 cG,aI 1 (.cons (aQ _) .nil),trivial⟩ ⟨⟨_,rfl,.sl 0 0 0 _ rfl⟩,aL,⟨_,rfl,.int hw⟩,⟨_,rfl,.int (by rw[Mr h2,Mr h2,hmt];simp;omega)⟩,⟨_,rfl,.w64 om ⟨om,om⟩⟩,trivial⟩) om
  ·have h2:¬kind=2:=by simpa using h
   rw[h];refine Rr ?_;refine aE (fun h=>?_) (fun h=>?_)
   ·have h3:0<k:=by simp at h;omega
    refine Rr ?_;exact .mk (k+1) [(0,0),(1,1)] om (aH _ rfl ⟨aI 0 cG,aI 1 (.cons (aQ _) .nil),trivial⟩ ⟨⟨_,rfl,.sl 0 0 0 _ rfl⟩,aL,⟨_,rfl,.int hw⟩,⟨_,rfl,.int (by rw[Mm h2,Mm h2,hmd h3];simp;omega)⟩,⟨_,rfl,.w64 om ⟨om,om⟩⟩,trivial⟩) om
   ·have h3:k=0:=by simp at h;omega
    refine Rr ?_;exact .mk (k+1) [(0,0),(1,1)] om (aH _ rfl ⟨aI 0 cG,aI 1 (.cons (aQ _) .nil),trivial⟩ ⟨⟨_,rfl,.sl 0 0 0 _ rfl⟩,aL,⟨_,rfl,.int hw⟩,⟨_,rfl,.int (by rw[Mm h2,Mm h2,h3];cases kids<;>simp)⟩,⟨_,rfl,.w64 om ⟨om,om⟩⟩,trivial⟩) om
 ·have hke:k=kids.length:=by rw[aC] at h;simp at h;omega
  rw[hke,M2] at *;have hm1:=hmost kids;have hm2:=hmost (kids.drop 1);have hs2:=hsum kids;clear hke h;rcases(show kind=0∨kind=1∨kind=2∨kind=3∨kind=4 by omega) with rfl|rfl|rfl|rfl|rfl
  ·have hz:=H1 (.mk vk vn vs vks) om;have hval:iH bs ⟨0,name,lo,hi,ws,ls,vals,kids,.mk vk vn vs vks⟩=((aU (.mk vk vn vs vks):Nat):Int):=rfl;generalize aU (.mk vk vn vs vks)=sz at hz hval;refine Rr ?_;refine hz.go ?_;refine Rr ?_;refine aM (bO rfl rfl (by rw[aC]) (by simp;omega)) ?_;refine Rr ?_;exact hfin sz _ _ _ _ rfl (by decide) rfl hval.symm
  ·refine Rr ?_;refine aM (bO rfl rfl (by rw[aC]) (by simp;omega)) ?_;refine Rr ?_;exact hfin 1 _ _ _ _ rfl (by decide) rfl rfl
  ·rw[Mr rfl] at *;refine Rr ?_;refine aM (bO rfl rfl (by rw[aC]) (by simp;omega)) ?_;refine Rr ?_;exact hfin (bZ bs kids) _ _ _ _ rfl (by decide) rfl rfl
  ·refine Rr ?_;refine aM (bO rfl rfl (by rw[aC]) (by simp;omega)) ?_;refine Rr ?_;exact hfin (1+eU bs kids) _ _ _ _ rfl (by decide) rfl rfl
  ·rw[Mm om] at *;refine Rr ?_;refine aM (bO rfl rfl (by rw[aC]) (by simp;omega)) ?_;refine Rr ?_;exact hfin (bZ bs (kids.drop 1)) _ _ _ _ rfl (by decide) rfl rfl
end Go.Proofs.YtpajadlnaokngaaGreatDoor
namespace Go.Proofs.YtpajadlnaokngaaGreatDoor
open Go Go.Ax Go.Proofs Tryz
set_option maxRecDepth 100000
theorem Fi{l:List aT}{k:Nat}{v a:aT}(h:l[k]? = some a):BW l k v=(bU a v == 0):=by simp[BW,h]
theorem Fh{l:List aT}{k:Nat}{v:aT}(h:l.length<=k):BW l k v=false:=by simp[BW,Ms h]
theorem Ku(l:List aT)(v:aT)(hl:l.length<=4294967296)(hok:∀a∈l,gC a) :
  aZ prog [] 268 [.il 4 (aO l),cD v] (.tup [.int .i64 (gA l v).1,.bool (gA l v).2]):=by
 obtain⟨vk,vn,vs,vks⟩:=v;have nl:NN (.il 4 (aO l)):=.il' (aY l);have nt:∀(k:Int) (b:Bool),NN (.tup [.int .i64 k,.bool b]):=fun k b=>.tup' (.cons (.int _ _) (.cons (.bool _) .nil))
 refine fA bI func268 rfl ?_
 conv=>whnf
 refine dW.loopAt bI (fun k:Nat=>k<=l.length/\∀p a,p<k->l[p]? = some a->bU a (.mk vk vn vs vks)<0)
  (fun k=>⟨[(0,.il 4 (aO l)),(3,.ptr 0 0 0),(6,.int .i64 k)],[(0,.row 57 4 [cD (.mk vk vn vs vks)])],1,27⟩)
  (fun k=>l.length-k) 0 [(0,0)] ⟨by simp,by simp⟩
  (aH _ rfl ⟨aI 0 (.cons (eD _) .nil),trivial⟩ ⟨a9 nl,aL,a9 (.int _ _),trivial⟩) ?_
 rintro k ⟨h1,h2⟩
 conv=>whnf
 refine aE (fun h=>?_) (fun h=>?_)
 ·have hk:k<l.length:=by rw[aB] at h;simpa using h
  have e:=Ad hk;obtain⟨⟨ak,an,az,aks⟩,hv⟩:∃a,a=l[k]:=⟨_,rfl⟩
  rw[←hv] at e;have hm:aT.mk ak an az aks∈l:=by rw[hv];exact NL hk
  have hg:l[k]? = some (aT.mk ak an az aks):=by rw[hv];exact Mf hk
  conv=>whnf
  refine aD e ?_
  conv=>whnf
  refine(sL (.mk ak an az aks) (.mk vk vn vs vks) (hok _ hm)).use bI (.cons (eD _) (.cons (eD _) .nil)) (.int _ _) ?_
  conv=>whnf
  refine aE (fun h3=>?_) (fun h3=>?_)
  ·have h3:0<=bU (.mk ak an az aks) (.mk vk vn vs vks):=by simpa using h3
   conv=>whnf
   refine aA (nt _ _) ⟨?_,rfl,rfl⟩;rw[wK h1 h2 (fun a ha=>by rw[hg] at ha;cases ha;exact h3),Fi hg]
  ·have h3:bU (.mk ak an az aks) (.mk vk vn vs vks)<0:=by simpa using h3
   conv=>whnf
   refine .mk (k+1) [(0,0)] ⟨om,fun p a hp ha=>?_⟩ (aH _ rfl ⟨aI 0 (.cons (eD _) .nil),trivial⟩ ⟨a9 nl,aL,⟨_,rfl,.eq (.int _ _) ?_⟩,trivial⟩) om
   ·rcases Mq p k with hp'|hp'
    ·exact h2 p a hp' ha
    ·have:p=k:=om;subst this;rw[hg] at ha;cases ha;exact h3
   ·rw[fC ⟨om,om⟩];rfl
 ·have hk:k=l.length:=by rw[aB] at h;simp at h;omega
  conv=>whnf
  refine aA (nt _ _) ⟨?_,rfl,rfl⟩;rw[wK h1 h2 (fun a ha=>by rw[Ms om] at ha;cases ha),Fh om,aB,hk]
set_option maxHeartbeats 4000000
theorem MJ(k:Int)(b:Bool):Sc (.tup [.int .i64 k,.bool b]):=.tup _ fun j c h=>by
 rcases j with _|_|j<;>simp at h<;>subst h
 ·exact .int _ _
 ·exact .bool _
theorem Ds(l:List aT)(hl:l.length<=4294967296)(hok:∀a∈l,gC a) :
  aF prog [] 215 [.il 4 (aO l)] [] 0 fun r m n=>r = .sl 0 0 (dD l).length/\m=[(0,.row 57 4 (aO (dD l)))]/\n=1:=by
 have nl:NN (.il 4 (aO l)):=nn;refine aN bI func215 rfl ?_;refine Rr ?_;refine a6.ph 57 4 ?_;refine a6.at bI (fun x:Nat × List aT=>x.1<=l.length/\x.2=dD (l.take x.1))
  (fun x=>⟨[(0,.il 4 (aO l)),(3,.sl 0 0 x.2.length),(4,.int .i64 x.1)],[(0,.row 57 4 (aO x.2))],1,41⟩)
  (fun x=>l.length-x.1) (0,[]) [(0,0)] ⟨by simp,by simp[dD]⟩
  (aH _ rfl ⟨⟨0,_,rfl,rfl,.nil⟩,trivial⟩ ⟨a9 nl,⟨_,rfl,.nslk 0 0 _ rfl rfl⟩,aG,trivial⟩) ?_
 rintro⟨k,out⟩ ⟨h1,h2⟩
 dsimp only at h1 h2 ⊢
 have hout:out.length<=k:=by rw[h2];have:=nK (l.take k);simp at this;omega
 have el:=aB out;have hoko:∀a∈out,gC a:=fun a ha=>by rw[h2] at ha;exact hok a (Nf (l4 ha))
 refine Rr ?_;refine aE (fun h=>?_) (fun h=>?_)
 ·have hk:k<l.length:=Cj h;obtain⟨ak,an,az,aks,hmem,hg,hv,e⟩:=bK (l:=l) (k:=k) hk;have hnext:dD (l.take (k+1))=pV out (.mk ak an az aks):=by
   rw[Mn hk,kV,←h2,hv]
  have hf:=Ku out (.mk ak an az aks) om hoko;have hle:=vS out (.mk ak an az aks);have hins:pV out (.mk ak an az aks)=if (gA out (.mk ak an az aks)).2 then out else out.take (gA out (.mk ak an az aks)).1 ++ .mk ak an az aks::out.drop (gA out (.mk ak an az aks)).1:=rfl
  generalize gA out (.mk ak an az aks)=f at hf hle hins;generalize pV out (.mk ak an az aks)=nw at hnext hins;obtain⟨p,b⟩:=f
  dsimp only at hle hins hf
  refine Rr ?_;refine aD e ?_;refine Rr ?_;refine hf.lend bI (.cons (.fz' rfl rfl (by rw[aB];omega) (by rw[←aB];simp) (aY out)) (.cons (.same _ (eD (.mk ak an az aks))) .nil)) (MJ _ _) ?_;cases b with
  | true=>
   refine Rr ?_;rw[Mr rfl] at hins;exact .mk (k+1,out) [(0,0)] ⟨by simp only;omega,by rw[←hins];exact hnext.symm⟩ (aH _ rfl ⟨aI 0 cG,trivial⟩ ⟨a9 nl,⟨_,rfl,.sl 0 0 0 _ rfl⟩,⟨_,rfl,.w64 (by simp) ⟨om,om⟩⟩,trivial⟩) (by simp only;omega)
  | false=>
   rw[Mm (by simp)] at hins;refine Rr ?_;repeat(first
    | (refine bW ?_;refine Rr ?_)
    | (refine aD e ?_;refine Rr ?_)
    | (refine aM (LP (by simp;try omega) (by simp;try omega) (by simp;try omega)) ?_;refine Rr ?_)
    | (refine aM (Gl (by simp;try omega)) ?_;refine Rr ?_)
    | (refine aM (sJ rfl (by simp;try omega)) ?_;refine Rr ?_)
    | (refine aM (bO rfl rfl (by simp;try omega) (by simp;try omega)) ?_;refine Rr ?_))
   have hrow:List.take ((p:Int).toNat-0) (List.drop (0+0) (aO out))++List.take 1 (List.drop 0 [AV.agg [.int .i64 ak,.int .i64 an,.str az,.il 4 (aO aks)]])++List.take (out.length-(p:Int).toNat) (List.drop (0+(p:Int).toNat) (aO out))=aO nw:=by
    rw[hins];simp[fL,cD,List.map_take,List.map_drop];exact M7 (by simp)
   exact .mk (k+1,nw) [(19,0)] ⟨by simp only;omega,hnext.symm⟩ (aH _ rfl ⟨⟨19,_,rfl,rfl,.eq cG hrow⟩,trivial⟩ ⟨a9 nl,⟨_,rfl,.slE rfl (by have:=congrArg List.length hrow;rw[NJ,NJ,aB] at this;exact this)⟩,⟨_,rfl,.w64 (by simp) ⟨om,om⟩⟩,trivial⟩) (by simp only;omega)
 ·have hk:k=l.length:=by have:=Ct h;omega
  refine Rr ?_;rw[hk,M2] at h2;subst h2;exact cA (n':=1) (m':=[(0,.row 57 4 (aO (dD l)))]) [(0,0)] rfl ⟨aI 0 cG,trivial⟩ (.sl 0 0 0 _ rfl) ⟨rfl,rfl,rfl⟩
theorem KK(l:List aT)(hl:l.length<=4294967296)(hok:∀a∈l,gC a):aZ prog [] 215 [.il 4 (aO l)] (.il 4 (aO (dD l))):=by
 refine aF.turn bI ((Ds l hl hok).mono ?_);rintro r m n ⟨rfl,rfl,rfl⟩;exact lR (.fz' rfl rfl (by rw[aB];omega) (by rw[←aB];simp) cG) ⟨rfl,rfl,rfl⟩
set_option maxHeartbeats 8000000
theorem GK(x:Nd)(bs:List fK)(h0:x.kind=0):aF prog [] 139 [bN x,.sl 0 0 bs.length] [(0,.row 125 2 (bE bs))] 1 fun r m _=>r=iU (cM x bs)/\m=[(0,.row 125 2 (bE bs))]:=by
 have nb:NN (.il 2 (bE bs)):=.il' (aW bs);obtain⟨kind,name,lo,hi,ws,ls,vals,kids,⟨vk,vn,vs,vks⟩⟩:=x;simp only at h0;subst h0;refine aN bI func139 rfl ?_;refine Rr ?_;refine cA (r':=iU ⟨[.mk vk vn vs vks],false⟩) (n':=1) (m':=[(0,.row 125 2 (bE bs))]) [(0,0)] rfl ⟨aI 0 (aW bs),trivial⟩ (.agg' (.cons (.fzR rfl rfl (.cons (C3.same (x:=cD (.mk vk vn vs vks)) nn) .nil) rfl) (.s .nil))) ⟨rfl,rfl⟩
theorem C9(x:Nd)(bs:List fK)(h1:x.kind=1)(hlo : -4611686018427387904<=x.lo)(hh:x.lo<=x.hi)(hhi:x.hi<=4611686018427387904)(hsp:x.hi<x.lo+1099511627776):aF prog [] 139 [bN x,.sl 0 0 bs.length] [(0,.row 125 2 (bE bs))] 1 fun r m _=>r=iU (cM x bs)/\m=[(0,.row 125 2 (bE bs))]:=by
 obtain⟨kind,name,lo,hi,ws,ls,vals,kids,⟨vk,vn,vs,vks⟩⟩:=x;simp only at h1 hlo hh hhi hsp;subst h1;have hres:cM ⟨1,name,lo,hi,ws,ls,vals,kids,.mk vk vn vs vks⟩ bs=if 1024<=hi-lo then⟨[],true⟩ else⟨nI lo (hi+1-lo).toNat,false⟩:=rfl
 generalize cM ⟨1,name,lo,hi,ws,ls,vals,kids,.mk vk vn vs vks⟩ bs=res at hres;have hw:IntKind.i64.wrap (hi-lo)=hi-lo:=w64 rfl ⟨om,om⟩;refine aN bI func139 rfl ?_;refine Rr ?_;rw[hw];refine aE (fun h=>?_) (fun h=>?_)
 ·refine Rr ?_;exact cA (r':=iU ⟨[],true⟩) (n':=1) (m':=[(0,.row 125 2 (bE bs))]) [(0,0)] rfl ⟨aI 0 (aW bs),trivial⟩ (.agg' (.cons (.nil 4) (.s .nil))) ⟨by rw[hres,Mr (by simpa using h)],rfl⟩
 ·have hlt:hi-lo<1024:=by simpa using h
  rw[Mm om] at hres;refine Rr ?_;refine a6.ph 57 4 ?_;refine a6.at bI (fun k:Nat=>lo+k<=hi+1)
   (fun k=>⟨[(2,.ptr 1 0 0),(4,.ptr 2 0 0),(5,.ptr 3 0 0),(6,.int .i64 (lo+k))],[(0,.row 125 2 (bE bs)),(1,.row 59 12 [bN ⟨1,name,lo,hi,ws,ls,vals,kids,.mk vk vn vs vks⟩]),(2,.row 125 2 [.agg [.nsl,.bool false]]),(3,.row 125 2 [.agg [.sl 4 0 (nI lo k).length,.bool false]]),(4,.row 57 4 (aO (nI lo k)))],5,96⟩)
   (fun k=>(hi+1-lo).toNat-k) 0 [(0,0),(1,1),(2,2),(3,3),(4,4)] om
   (aH _ rfl ⟨aI 0 (aW bs),aI 1 (.cons (aQ _) .nil),aI 2 cG,⟨3,_,rfl,rfl,.cons (.agg (.cons (.nslk 4 4 _ rfl rfl) (.s .nil))) .nil⟩,⟨4,_,rfl,rfl,.nil⟩,trivial⟩ ⟨aL,aL,aL,⟨_,rfl,.int (by simp)⟩,trivial⟩) ?_
  intro k hk;have hlen:=y5 lo k;refine Rr ?_;refine aE (fun h=>?_) (fun h=>?_)
  ·have hkl:lo+k<=hi:=by simpa using h
   refine Rr ?_;refine aM (bO rfl rfl (by rw[aB]) (by simp;omega)) ?_;refine Rr ?_;exact .mk (k+1) [(0,0),(1,1),(2,2),(3,3),(6,4)] om
    (aH _ rfl ⟨aI 0 (aW bs),aI 1 (.cons (aQ _) .nil),aI 2 cG,⟨3,_,rfl,rfl,.cons (.agg (.cons (.slE rfl (by rw[uR];simp)) (.s .nil))) .nil⟩,⟨6,_,rfl,rfl,by rw[uR,fB];exact .snoc rfl (.same cG) (Br _ _ _)⟩,trivial⟩ ⟨aL,aL,aL,⟨_,rfl,.w64 om ⟨om,om⟩⟩,trivial⟩) om
  ·have hke:k=(hi+1-lo).toNat:=by simp at h;omega
   refine Rr ?_;exact cA (r':=iU ⟨nI lo k,false⟩) (n':=1) (m':=[(0,.row 125 2 (bE bs))]) [(0,0)] rfl ⟨aI 0 (aW bs),trivial⟩ (.agg' (.cons (.fzR rfl rfl (.same cG) (by rw[aB])) (.s .nil))) ⟨by rw[hres,hke],rfl⟩
set_option maxHeartbeats 8000000
theorem F7(x:Nd)(bs:List fK)(h2:x.kind=2)(hkl:x.kids.length<=65536)(hk:∀(j:Nat) (k:Int),x.kids[j]? = some k->0<=k/\k<bs.length)(hb:∀b∈bs,b.vals.length<=1024/\∀v∈b.vals,gC v) :
  aF prog [] 139 [bN x,.sl 0 0 bs.length] [(0,.row 125 2 (bE bs))] 1 fun r m _=>r=iU (cM x bs)/\m=[(0,.row 125 2 (bE bs))]:=by
 have nb:NN (.il 2 (bE bs)):=.il' (aW bs);obtain⟨kind,name,lo,hi,ws,ls,vals,kids,⟨vk,vn,vs,vks⟩⟩:=x;simp only at h2 hkl hk;subst h2;have hres:cM ⟨2,name,lo,hi,ws,ls,vals,kids,.mk vk vn vs vks⟩ bs=jZ bs kids:=rfl;generalize cM ⟨2,name,lo,hi,ws,ls,vals,kids,.mk vk vn vs vks⟩ bs=res at hres;refine aN bI func139 rfl ?_;refine Rr ?_;refine a6.ph 57 4 ?_;refine a6.at bI (fun a:Nat × (List aT × Bool)=>a.1<=kids.length/\a.2=(kids.take a.1).foldl (bF bs) ([],false))
  (fun a=>⟨[(1,.sl 0 0 bs.length),(2,.ptr 1 0 0),(4,.ptr 2 0 0),(5,.ptr 3 0 0),(7,.int .i64 a.1)],[(0,.row 125 2 (bE bs)),(1,.row 59 12 [bN ⟨2,name,lo,hi,ws,ls,vals,kids,.mk vk vn vs vks⟩]),(2,.row 125 2 [.agg [.nsl,.bool false]]),(3,.row 125 2 [.agg [.sl 4 0 a.2.1.length,.bool a.2.2]]),(4,.row 57 4 (aO a.2.1))],5,96⟩)
  (fun a=>kids.length-a.1) (0,[],false) [(0,0),(1,1),(2,2),(3,3),(4,4)] ⟨by simp,by simp⟩
  (aH _ rfl ⟨aI 0 (aW bs),aI 1 (.cons (aQ _) .nil),aI 2 cG,⟨3,_,rfl,rfl,.cons (.agg (.cons (.nslk 4 4 _ rfl rfl) (.s .nil))) .nil⟩,⟨4,_,rfl,rfl,.nil⟩,trivial⟩ ⟨⟨_,rfl,.sl 0 0 0 _ rfl⟩,aL,aL,aL,⟨_,rfl,.int rfl⟩,trivial⟩) ?_
 rintro⟨k,a1,am⟩ ⟨hkk,ha⟩;simp only at hkk ha;have hbd:=pC hb (kids.take k) ([],false) 0 (by simp) (by simp);rw[←ha] at hbd;simp only at hbd;have hlk:(kids.take k).length<=65536:=by simp;omega
 have ha1:a1.length<=67108864:=om;refine Rr ?_;refine aE (fun h=>?_) (fun h=>?_)
 ·have hlt:k<kids.length:=by rw[aC] at h;simpa using h
  have e1:(aX kids)[(k:Int).toNat]? = some (.int .i64 kids[k]):=by rw[Mo,bL,Mf hlt];rfl
  have hg:kids[k]? = some kids[k]:=Mf hlt;have hstep:=Dx (bF bs) hlt ([],false);rw[←ha] at hstep;generalize kids[k]=q at e1 hg hstep;obtain⟨q1,q2⟩:=hk k q hg;obtain⟨qn,rfl⟩:=Mx q1;have hqn:qn<bs.length:=om;obtain⟨⟨bv,bm⟩,hbe⟩:∃b,b=bs[qn]:=⟨_,rfl⟩
  have hbm:=hb _ (show (⟨bv,bm⟩:fK)∈bs by rw[hbe];exact NL hqn);simp only at hbm;have hat:cP bs qn=⟨bv,bm⟩:=by rw[hbe];simp[cP,hqn]
  have bq:Nat.blt (qn:Int).toNat bs.length=true:=Ml (by simp;omega);have e2:(bE bs)[0+(qn:Int).toNat]? = some (iU ⟨bv,bm⟩):=by rw[NS,Mo,iV,Mf hqn,←hbe];rfl
  have hso:=Ds (a1++bv) (by simp;omega) (fun v hv=>by
   rcases Mv.1 hv with h|h
   ·exact hbd.2 v h
   ·exact hbm.2 v h)
  have hun:bF bs (a1,am) qn=(dD (a1++bv),am || bm || decide (1024<(dD (a1++bv)).length)):=by simp[bF,hat]
  rw[hun] at hstep;generalize dD (a1++bv)=sv at hso hstep;refine Rr ?_;refine aD e1 ?_;refine Rr ?_;repeat((first|refine aM bq ?_|refine aD e2 ?_);refine Rr ?_)
  refine aM (bO rfl rfl (by rw[aB]) (by simp[aB];omega)) ?_;refine Rr ?_;refine aF.pre bI [(5,5),(0,0),(1,1),(2,2),(3,3)] (mem':=[(5,.row 125 2 [.agg [.il 4 (aO bv),.bool bm]]),(0,.row 125 2 (bE bs)),(1,.row 59 12 [bN ⟨2,name,lo,hi,ws,ls,vals,kids,.mk vk vn vs vks⟩]),(2,.row 125 2 [.agg [.nsl,.bool false]]),(3,.row 125 2 [.agg [.junk,.bool am]])]) rfl
   ⟨aI 5 cG,aI 0 (aW bs),aI 1 (.cons (aQ _) .nil),aI 2 cG,⟨3,_,rfl,rfl,.cons (.agg (.cons (.junk _) (.s .nil))) .nil⟩,trivial⟩
   (.cons (.fzR (ys:=aO (a1++bv)) rfl rfl (.eq cG (by simp[fL])) (by simp[aB])) .nil) ?_
  refine aF.useNew bI hso cG cG ?_;cases am<;>cases bm
  all_goals
   refine Rr ?_;exact .mk (k+1,sv,_) [(0,0),(1,1),(2,2),(3,3),(7,4)] ⟨by simp only;omega,hstep.symm⟩
    (aH _ rfl ⟨aI 0 (aW bs),aI 1 (.cons (aQ _) .nil),aI 2 cG,⟨3,_,rfl,rfl,.cons (.agg (.cons (.sl 7 4 0 _ rfl) (.cons (.bool (by simp[decide_eq_decide]<;>omega)) .nil))) .nil⟩,aI 7 cG,trivial⟩
     ⟨⟨_,rfl,.sl 0 0 0 _ rfl⟩,aL,aL,aL,⟨_,rfl,.w64 (by simp) ⟨by simp only;omega,by simp only;omega⟩⟩,trivial⟩) (by simp only;omega)
 ·have hke:k=kids.length:=by rw[aC] at h;simp at h;omega
  rw[hke,M2] at ha;have hu:jZ bs kids=if am then⟨[],true⟩ else⟨a1,false⟩:=by
   unfold jZ;rw[←ha]
  cases am with
  | true=>
   refine Rr ?_;exact cA (r':=iU ⟨[],true⟩) (n':=1) (m':=[(0,.row 125 2 (bE bs))]) [(0,0)] rfl ⟨aI 0 (aW bs),trivial⟩ (.agg' (.cons (.nil 4) (.s .nil))) ⟨by rw[hres,hu,Mr rfl],rfl⟩
  | false=>
   refine Rr ?_;exact cA (r':=iU ⟨a1,false⟩) (n':=1) (m':=[(0,.row 125 2 (bE bs))]) [(0,0)] rfl ⟨aI 0 (aW bs),trivial⟩ (.agg' (.cons (.fzR rfl rfl (.same cG) (by rw[aB])) (.s .nil))) ⟨by rw[hres,hu,Mm (by simp)],rfl⟩
set_option maxHeartbeats 8000000
theorem Fp(x:Nd)(bs:List fK)(h2:x.kind=4)(hkl:x.kids.length<=65536)(hk:∀(j:Nat) (k:Int),x.kids[j]? = some k->0<=k/\k<bs.length)(hb:∀b∈bs,b.vals.length<=1024/\∀v∈b.vals,gC v) :
  aF prog [] 139 [bN x,.sl 0 0 bs.length] [(0,.row 125 2 (bE bs))] 1 fun r m _=>r=iU (cM x bs)/\m=[(0,.row 125 2 (bE bs))]:=by
 have nb:NN (.il 2 (bE bs)):=.il' (aW bs);obtain⟨kind,name,lo,hi,ws,ls,vals,kids,⟨vk,vn,vs,vks⟩⟩:=x;simp only at h2 hkl hk;subst h2;have hres:cM ⟨4,name,lo,hi,ws,ls,vals,kids,.mk vk vn vs vks⟩ bs=jZ bs (kids.drop 1):=rfl;generalize cM ⟨4,name,lo,hi,ws,ls,vals,kids,.mk vk vn vs vks⟩ bs=res at hres;refine aN bI func139 rfl ?_;refine Rr ?_;refine a6.ph 57 4 ?_;refine a6.at bI (fun a:Nat × (List aT × Bool)=>a.1<=kids.length/\a.2=((kids.take a.1).drop 1).foldl (bF bs) ([],false))
  (fun a=>⟨[(1,.sl 0 0 bs.length),(2,.ptr 1 0 0),(4,.ptr 2 0 0),(5,.ptr 3 0 0),(7,.int .i64 a.1)],[(0,.row 125 2 (bE bs)),(1,.row 59 12 [bN ⟨4,name,lo,hi,ws,ls,vals,kids,.mk vk vn vs vks⟩]),(2,.row 125 2 [.agg [.nsl,.bool false]]),(3,.row 125 2 [.agg [.sl 4 0 a.2.1.length,.bool a.2.2]]),(4,.row 57 4 (aO a.2.1))],5,96⟩)
  (fun a=>kids.length-a.1) (0,[],false) [(0,0),(1,1),(2,2),(3,3),(4,4)] ⟨by simp,by simp⟩
  (aH _ rfl ⟨aI 0 (aW bs),aI 1 (.cons (aQ _) .nil),aI 2 cG,⟨3,_,rfl,rfl,.cons (.agg (.cons (.nslk 4 4 _ rfl rfl) (.s .nil))) .nil⟩,⟨4,_,rfl,rfl,.nil⟩,trivial⟩ ⟨⟨_,rfl,.sl 0 0 0 _ rfl⟩,aL,aL,aL,⟨_,rfl,.int rfl⟩,trivial⟩) ?_
 rintro⟨k,a1,am⟩ ⟨hkk,ha⟩;simp only at hkk ha;have hbd:=pC hb ((kids.take k).drop 1) ([],false) 0 (by simp) (by simp);rw[←ha] at hbd;simp only at hbd;have hlk:((kids.take k).drop 1).length<=65536:=by simp;omega
 have ha1:a1.length<=67108864:=om;refine Rr ?_;refine aE (fun h=>?_) (fun h=>?_)
 ·have hlt:k<kids.length:=by rw[aC] at h;simpa using h
  have e1:(aX kids)[(k:Int).toNat]? = some (.int .i64 kids[k]):=by rw[Mo,bL,Mf hlt];rfl
  have hg:kids[k]? = some kids[k]:=Mf hlt;refine Rr ?_;refine aE (fun h=>?_) (fun h=>?_)
  ·have hk0:k=0:=by simp at h;omega
   subst hk0;refine Rr ?_;exact .mk (1,a1,am) [(0,0),(1,1),(2,2),(3,3),(4,4)] ⟨by simp only;omega,by rw[ha];cases kids<;>simp⟩
    (aH _ rfl ⟨aI 0 (aW bs),aI 1 (.cons (aQ _) .nil),aI 2 cG,⟨3,_,rfl,rfl,.cons (.agg (.cons (.sl 4 4 0 _ rfl) (.s .nil))) .nil⟩,aI 4 cG,trivial⟩ ⟨⟨_,rfl,.sl 0 0 0 _ rfl⟩,aL,aL,aL,⟨_,rfl,.int rfl⟩,trivial⟩) (by simp only;omega)
  have hk0:0<k:=by
   rcases M5 k with h'|h'
   ·rw[h'] at h;simp at h
   ·exact h'
  have hstep:=DF (bF bs) hlt hk0 ([],false);rw[←ha] at hstep;generalize kids[k]=q at e1 hg hstep;obtain⟨q1,q2⟩:=hk k q hg;obtain⟨qn,rfl⟩:=Mx q1;have hqn:qn<bs.length:=om;obtain⟨⟨bv,bm⟩,hbe⟩:∃b,b=bs[qn]:=⟨_,rfl⟩
  have hbm:=hb _ (show (⟨bv,bm⟩:fK)∈bs by rw[hbe];exact NL hqn);simp only at hbm;have hat:cP bs qn=⟨bv,bm⟩:=by rw[hbe];simp[cP,hqn]
  have bq:Nat.blt (qn:Int).toNat bs.length=true:=Ml (by simp;omega);have e2:(bE bs)[0+(qn:Int).toNat]? = some (iU ⟨bv,bm⟩):=by rw[NS,Mo,iV,Mf hqn,←hbe];rfl
  have hso:=Ds (a1++bv) (by simp;omega) (fun v hv=>by
   rcases Mv.1 hv with h|h
   ·exact hbd.2 v h
   ·exact hbm.2 v h)
  have hun:bF bs (a1,am) qn=(dD (a1++bv),am || bm || decide (1024<(dD (a1++bv)).length)):=by simp[bF,hat]
  rw[hun] at hstep;generalize dD (a1++bv)=sv at hso hstep;refine Rr ?_;refine aD e1 ?_;refine Rr ?_;repeat((first|refine aM bq ?_|refine aD e2 ?_);refine Rr ?_)
  refine aM (bO rfl rfl (by rw[aB]) (by simp[aB];omega)) ?_;refine Rr ?_;refine aF.pre bI [(5,5),(0,0),(1,1),(2,2),(3,3)] (mem':=[(5,.row 125 2 [.agg [.il 4 (aO bv),.bool bm]]),(0,.row 125 2 (bE bs)),(1,.row 59 12 [bN ⟨4,name,lo,hi,ws,ls,vals,kids,.mk vk vn vs vks⟩]),(2,.row 125 2 [.agg [.nsl,.bool false]]),(3,.row 125 2 [.agg [.junk,.bool am]])]) rfl
   ⟨aI 5 cG,aI 0 (aW bs),aI 1 (.cons (aQ _) .nil),aI 2 cG,⟨3,_,rfl,rfl,.cons (.agg (.cons (.junk _) (.s .nil))) .nil⟩,trivial⟩
   (.cons (.fzR (ys:=aO (a1++bv)) rfl rfl (.eq cG (by simp[fL])) (by simp[aB])) .nil) ?_
  refine aF.useNew bI hso cG cG ?_;cases am<;>cases bm
  all_goals
   refine Rr ?_;exact .mk (k+1,sv,_) [(0,0),(1,1),(2,2),(3,3),(7,4)] ⟨by simp only;omega,hstep.symm⟩
    (aH _ rfl ⟨aI 0 (aW bs),aI 1 (.cons (aQ _) .nil),aI 2 cG,⟨3,_,rfl,rfl,.cons (.agg (.cons (.sl 7 4 0 _ rfl) (.cons (.bool (by simp[decide_eq_decide]<;>omega)) .nil))) .nil⟩,aI 7 cG,trivial⟩
     ⟨⟨_,rfl,.sl 0 0 0 _ rfl⟩,aL,aL,aL,⟨_,rfl,.w64 (by simp) ⟨by simp only;omega,by simp only;omega⟩⟩,trivial⟩) (by simp only;omega)
 ·have hke:k=kids.length:=by rw[aC] at h;simp at h;omega
  rw[hke,M2] at ha;have hu:jZ bs (kids.drop 1)=if am then⟨[],true⟩ else⟨a1,false⟩:=by
   unfold jZ;rw[←ha]
  cases am with
  | true=>
   refine Rr ?_;exact cA (r':=iU ⟨[],true⟩) (n':=1) (m':=[(0,.row 125 2 (bE bs))]) [(0,0)] rfl ⟨aI 0 (aW bs),trivial⟩ (.agg' (.cons (.nil 4) (.s .nil))) ⟨by rw[hres,hu,Mr rfl],rfl⟩
  | false=>
   refine Rr ?_;exact cA (r':=iU ⟨a1,false⟩) (n':=1) (m':=[(0,.row 125 2 (bE bs))]) [(0,0)] rfl ⟨aI 0 (aW bs),trivial⟩ (.agg' (.cons (.fzR rfl rfl (.same cG) (by rw[aB])) (.s .nil))) ⟨by rw[hres,hu,Mm (by simp)],rfl⟩
set_option maxHeartbeats 8000000
def jJ(l:List (List aT)):List AV:=l.map fun r=>.il 4 (aO r)
theorem fW(l:List (List aT)):jK (jJ l):=fun a ha=>by
 obtain⟨n,_,rfl⟩:=Mz.1 ha;exact nn
theorem nG(l:List aT):∀rows:List (List aT),(eY rows l).length=rows.length*l.length
 | []=>by simp[eY]
 | r::rs=>by
  have:=nG l rs;simp only[eY,OV,NJ,Ny,Ni,Nat.add_mul,Nv] at this ⊢;omega
theorem DJ(l:List (List aT))(r:List aT):jJ (l++[r])=jJ l++[.il 4 (aO r)]:=by simp[jJ]
theorem Ae(l:List (List aT)):(jJ l).length=l.length:=by simp[jJ]
theorem HS{name:List UInt8}(hn:name.length<=4294967296){r:List aT}(hr:r.length<=4294967296)(ho:∀v∈r,gC v):gC (dQ name r):=by
 unfold dQ;split
 ·exact jH ⟨om,om⟩ ⟨om,om⟩ (by simp) hr (rX ho)
 ·exact jH ⟨om,om⟩ ⟨om,om⟩ hn hr (rX ho)
theorem MG(x:Nd)(bs:List fK)(hname:x.name.length<=4294967296)(hkl:x.kids.length<=65536)(hk:∀(j:Nat) (k:Int),x.kids[j]? = some k->0<=k/\k<bs.length)(hb:∀b∈bs,b.vals.length<=1024/\∀v∈b.vals,gC v) :
  aF prog [] 214 [bN x,.sl 0 0 bs.length] [(0,.row 125 2 (bE bs))] 1 fun r m _=>r=iU (mF bs x)/\m=[(0,.row 125 2 (bE bs))]:=by
 obtain⟨kind,name,lo,hi,ws,ls,vals,kids,⟨vk,vn,vs,vks⟩⟩:=x;simp only at hkl hk hname;refine aN bI func214 rfl ?_;refine Rr ?_;refine a6.at bI (fun a:Nat × List (List aT)=>a.1<=kids.length/\a.2.length<=1024/\(∀r∈a.2,r.length<=a.1/\∀v∈r,gC v)/\eE bs kids [[]]=eE bs (kids.drop a.1) a.2)
  (fun a=>⟨[(1,.sl 0 0 bs.length),(2,.ptr 1 0 0),(4,.ptr 2 0 0),(5,.sl 3 0 a.2.length),(6,.int .i64 a.1)],[(0,.row 125 2 (bE bs)),(1,.row 59 12 [bN ⟨kind,name,lo,hi,ws,ls,vals,kids,.mk vk vn vs vks⟩]),(2,.row 125 2 [.agg [.nsl,.bool false]]),(3,.row 29 1 (jJ a.2))],4,91⟩)
  (fun a=>kids.length-a.1) (0,[[]]) [(0,0),(1,1),(2,2),(3,3)] ⟨by simp,by simp,by simp,by simp⟩
  (aH _ rfl ⟨aI 0 (aW bs),aI 1 (.cons (aQ _) .nil),aI 2 cG,⟨3,_,rfl,rfl,.cons (.one rfl rfl (.nil 4)) .nil⟩,trivial⟩ ⟨⟨_,rfl,.sl 0 0 0 _ rfl⟩,aL,aL,⟨_,rfl,.sl 3 3 0 _ rfl⟩,⟨_,rfl,.int rfl⟩,trivial⟩) ?_
 rintro⟨k,rows⟩ ⟨hkk,hrl,hrr,hro⟩;simp only at hkk hrl hrr hro;have hseq:mF bs ⟨kind,name,lo,hi,ws,ls,vals,kids,.mk vk vn vs vks⟩=match eE bs kids [[]] with|none=>⟨[],true⟩|some rows=>⟨dD (rows.map (dQ name)),false⟩:=rfl
 refine Rr ?_;refine aE (fun h=>?_) (fun h=>?_)
 ·have hlt:k<kids.length:=by rw[aC] at h;simpa using h
  have e1:(aX kids)[(k:Int).toNat]? = some (.int .i64 kids[k]):=by rw[Mo,bL,Mf hlt];rfl
  have hg:kids[k]? = some kids[k]:=Mf hlt;rw[List.drop_eq_getElem_cons hlt,eE] at hro;generalize kids[k]=q at e1 hg hro;obtain⟨q1,q2⟩:=hk k q hg;obtain⟨qn,rfl⟩:=Mx q1;have hqn:qn<bs.length:=om;obtain⟨⟨bv,bm⟩,hbe⟩:∃b,b=bs[qn]:=⟨_,rfl⟩
  have hbm:=hb _ (show (⟨bv,bm⟩:fK)∈bs by rw[hbe];exact NL hqn);simp only at hbm;have hat:cP bs qn=⟨bv,bm⟩:=by rw[hbe];simp[cP,hqn]
  rw[hat] at hro;simp only at hro;have bq:Nat.blt (qn:Int).toNat bs.length=true:=Ml (by simp;omega);have e2:(bE bs)[0+(qn:Int).toNat]? = some (iU ⟨bv,bm⟩):=by rw[NS,Mo,iV,Mf hqn,←hbe];rfl
  refine Rr ?_;refine aD e1 ?_;refine Rr ?_;repeat((first|refine aM bq ?_|refine aD e2 ?_);refine Rr ?_)
  cases bm with
  | true=>
   refine Rr ?_;exact cA (r':=iU ⟨[],true⟩) (n':=1) (m':=[(0,.row 125 2 (bE bs))]) [(0,0)] rfl ⟨aI 0 (aW bs),trivial⟩ (.agg' (.cons (.nil 4) (.s .nil))) ⟨by rw[hseq,hro,Mr (.inl rfl)],rfl⟩
  | false=>
   refine Rr ?_;have hmul:IntKind.i64.wrap ((rows.length:Int)*((aO bv).length:Nat))=((rows.length*bv.length:Nat):Int):=by
    have hm:rows.length*bv.length<=1024*1024:=OC hrl hbm.1;rw[aB];exact w64 (by push_cast;rfl) ⟨om,om⟩
   rw[hmul];refine aE (fun h=>?_) (fun h=>?_)
   ·refine Rr ?_;exact cA (r':=iU ⟨[],true⟩) (n':=1) (m':=[(0,.row 125 2 (bE bs))]) [(0,0)] rfl ⟨aI 0 (aW bs),trivial⟩ (.agg' (.cons (.nil 4) (.s .nil))) ⟨by rw[hseq,hro,Mr (.inr (by simp only[gt_iff_lt,M4] at h;omega))],rfl⟩
   ·have hle:rows.length*bv.length<=1024:=by simp only[gt_iff_lt,Nh] at h;omega
    rw[Mm (by simp;omega)] at hro;refine Rr ?_;refine a6.ph 29 1 ?_;refine a6.at bI (fun i:Nat=>i<=rows.length)
     (fun i=>⟨[(1,.sl 0 0 bs.length),(2,.ptr 1 0 0),(4,.ptr 2 0 0),(5,.sl 3 0 rows.length),(6,.int .i64 k),(7,.ptr 4 0 0),(8,.sl 5 0 (eY (rows.take i) bv).length),(9,.int .i64 i)],[(0,.row 125 2 (bE bs)),(1,.row 59 12 [bN ⟨kind,name,lo,hi,ws,ls,vals,kids,.mk vk vn vs vks⟩]),(2,.row 125 2 [.agg [.nsl,.bool false]]),(3,.row 29 1 (jJ rows)),(4,.row 125 2 [iU ⟨bv,false⟩]),(5,.row 29 1 (jJ (eY (rows.take i) bv)))],6,91⟩)
     (fun i=>rows.length-i) 0 [(0,0),(1,1),(2,2),(3,3),(4,4),(5,5)] (by simp)
     (aH _ rfl ⟨aI 0 (aW bs),aI 1 (.cons (aQ _) .nil),aI 2 cG,aI 3 (fW _),aI 4 (.cons (jU _) .nil),⟨5,_,rfl,rfl,.nil⟩,trivial⟩ ⟨⟨_,rfl,.sl 0 0 0 _ rfl⟩,aL,aL,⟨_,rfl,.sl 3 3 0 _ rfl⟩,⟨_,rfl,.int rfl⟩,aL,⟨_,rfl,.nslk 5 5 _ rfl rfl⟩,⟨_,rfl,.int rfl⟩,trivial⟩) ?_
    intro i hi0;refine Rr ?_;refine aE (fun h=>?_) (fun h=>?_)
    ·have hir:i<rows.length:=by simpa using h
     obtain⟨rw,hrw⟩:∃rw,rw=rows[i]:=⟨_,rfl⟩
     have hrl2:=(hrr rw (by rw[hrw];exact NL hir)).1;have e3:(jJ rows)[0+(i:Int).toNat]? = some (.il 4 (aO rw)):=by rw[NS,Mo,jJ,NV,Mf hir,hrw];rfl
     have b3:Nat.blt (i:Int).toNat rows.length=true:=Ml (by simp;omega);refine Rr ?_;refine a6.at bI (fun j:Nat=>j<=bv.length)
      (fun j=>⟨[(1,.sl 0 0 bs.length),(2,.ptr 1 0 0),(4,.ptr 2 0 0),(5,.sl 3 0 rows.length),(6,.int .i64 k),(7,.ptr 4 0 0),(8,.sl 5 0 (eY (rows.take i) bv++(bv.take j).map fun v=>rw++[v]).length),(9,.int .i64 i),(10,.int .i64 j)],[(0,.row 125 2 (bE bs)),(1,.row 59 12 [bN ⟨kind,name,lo,hi,ws,ls,vals,kids,.mk vk vn vs vks⟩]),(2,.row 125 2 [.agg [.nsl,.bool false]]),(3,.row 29 1 (jJ rows)),(4,.row 125 2 [iU ⟨bv,false⟩]),(5,.row 29 1 (jJ (eY (rows.take i) bv++(bv.take j).map fun v=>rw++[v])))],6,91⟩)
      (fun j=>bv.length-j) 0 [(0,0),(1,1),(2,2),(3,3),(4,4),(5,5)] (by simp)
      (aH _ rfl ⟨aI 0 (aW bs),aI 1 (.cons (aQ _) .nil),aI 2 cG,aI 3 (fW _),aI 4 (.cons (jU _) .nil),⟨5,_,rfl,rfl,.eq (fW _) (by simp)⟩,trivial⟩ ⟨⟨_,rfl,.sl 0 0 0 _ rfl⟩,aL,aL,⟨_,rfl,.sl 3 3 0 _ rfl⟩,⟨_,rfl,.int rfl⟩,aL,⟨_,rfl,.slE rfl (by simp)⟩,⟨_,rfl,.int rfl⟩,⟨_,rfl,.int rfl⟩,trivial⟩) ?_
     intro j hj;have hX:(eY (rows.take i) bv).length<=1048576:=by
      rw[nG];exact NK (OC (show (rows.take i).length<=1024 by simp;omega) hbm.1) om
     refine Rr ?_;refine aE (fun h=>?_) (fun h=>?_)
     ·have hjl:j<bv.length:=Cj h;obtain⟨p1,p2,p3,p4,pm,pg,pe,ep⟩:=bK (l:=bv) (k:=j) hjl;have hL:eY (rows.take i) bv++((bv.take (j+1)).map fun v=>rw++[v])=(eY (rows.take i) bv++(bv.take j).map fun v=>rw++[v])++[rw++[.mk p1 p2 p3 p4]]:=by
       rw[Mn hjl,pe];simp
      refine Rr ?_;repeat((first|refine aM b3 ?_|refine aD e3 ?_);refine Rr ?_)
      refine aM (sJ rfl (by rw[aB];omega)) ?_;refine Rr ?_;refine aD ep ?_;refine Rr ?_;refine aM (bO rfl rfl (by simp) (by simp[aB];omega)) ?_;refine Rr ?_;refine aM (bO rfl rfl (by rw[Ae]) (by simp;omega)) ?_;refine Rr ?_;exact .mk (j+1) [(0,0),(1,1),(2,2),(3,3),(4,4),(10,5)] om
       (aH _ rfl ⟨aI 0 (aW bs),aI 1 (.cons (aQ _) .nil),aI 2 cG,aI 3 (fW _),aI 4 (.cons (jU _) .nil),⟨10,_,rfl,rfl,by rw[hL,DJ];exact .snoc rfl (.same (fW _)) (.one rfl rfl (.fzR rfl rfl (.eq cG (by rw[fB];rfl)) (by simp[aB])))⟩,trivial⟩ ⟨⟨_,rfl,.sl 0 0 0 _ rfl⟩,aL,aL,⟨_,rfl,.sl 3 3 0 _ rfl⟩,⟨_,rfl,.int rfl⟩,aL,⟨_,rfl,.slE rfl (by rw[hL];simp only[NJ];rfl)⟩,⟨_,rfl,.int rfl⟩,⟨_,rfl,.w64 om ⟨om,om⟩⟩,trivial⟩) om
     ·have hje:j=bv.length:=by have:bv.length<=j:=Ct h;omega
      refine Rr ?_;exact .mk (i+1) [(0,0),(1,1),(2,2),(3,3),(4,4),(5,5)] om
       (aH _ rfl ⟨aI 0 (aW bs),aI 1 (.cons (aQ _) .nil),aI 2 cG,aI 3 (fW _),aI 4 (.cons (jU _) .nil),⟨5,_,rfl,rfl,.eq (fW _) (by rw[hje,M2,Mn hir,←hrw];simp[eY])⟩,trivial⟩ ⟨⟨_,rfl,.sl 0 0 0 _ rfl⟩,aL,aL,⟨_,rfl,.sl 3 3 0 _ rfl⟩,⟨_,rfl,.int rfl⟩,aL,⟨_,rfl,.slE rfl (by rw[hje,M2,Mn hir,←hrw];simp[eY])⟩,⟨_,rfl,.w64 om ⟨om,om⟩⟩,trivial⟩) om
    ·have hie:i=rows.length:=by simp at h;omega
     have hmem:∀r∈eY rows bv,r.length<=k+1/\∀v∈r,gC v:=by
      intro r hr;simp only[eY,List.mem_flatMap,Mz] at hr;obtain⟨r',hr',v,hv,rfl⟩:=hr;have:=hrr r' hr';refine⟨by simp;omega,fun u hu=>?_⟩;rcases Mv.1 hu with hu|hu
      ·exact this.2 u hu
      ·simp at hu;rw[hu];exact hbm.2 v hv
     refine Rr ?_;exact .mk (k+1,eY rows bv) [(0,0),(1,1),(2,2),(5,3)] ⟨by simp only;omega,by rw[nG];exact hle,hmem,hro⟩
      (aH _ rfl ⟨aI 0 (aW bs),aI 1 (.cons (aQ _) .nil),aI 2 cG,⟨5,_,rfl,rfl,.eq (fW _) (by rw[hie,M2])⟩,trivial⟩ ⟨⟨_,rfl,.sl 0 0 0 _ rfl⟩,aL,aL,⟨_,rfl,.slE rfl (by rw[hie,M2])⟩,⟨_,rfl,.w64 (by simp) ⟨by simp only;omega,by simp only;omega⟩⟩,trivial⟩) (by simp only;omega)
 ·have hke:k=kids.length:=by rw[aC] at h;simp at h;omega
  rw[hke,Oe,eE] at hro;refine Rr ?_;refine a6.ph 57 4 ?_;refine a6.at bI (fun i:Nat=>i<=rows.length)
   (fun i=>⟨[(2,.ptr 1 0 0),(4,.ptr 2 0 0),(5,.sl 3 0 rows.length),(12,.sl 4 0 ((rows.take i).map (dQ name)).length),(13,.int .i64 i)],[(0,.row 125 2 (bE bs)),(1,.row 59 12 [bN ⟨kind,name,lo,hi,ws,ls,vals,kids,.mk vk vn vs vks⟩]),(2,.row 125 2 [.agg [.nsl,.bool false]]),(3,.row 29 1 (jJ rows)),(4,.row 57 4 (aO ((rows.take i).map (dQ name))))],5,91⟩)
   (fun i=>rows.length-i) 0 [(0,0),(1,1),(2,2),(3,3),(4,4)] (by simp)
   (aH _ rfl ⟨aI 0 (aW bs),aI 1 (.cons (aQ _) .nil),aI 2 cG,aI 3 (fW _),aI 4 .nil,trivial⟩ ⟨aL,aL,⟨_,rfl,.sl 3 3 0 _ rfl⟩,⟨_,rfl,.nslk 4 4 _ rfl rfl⟩,⟨_,rfl,.int rfl⟩,trivial⟩) ?_
  intro i hi0;refine Rr ?_;refine aE (fun h=>?_) (fun h=>?_)
  ·have hir:i<rows.length:=by simpa using h
   obtain⟨rw,hrw⟩:∃rw,rw=rows[i]:=⟨_,rfl⟩
   have e3:(jJ rows)[0+(i:Int).toNat]? = some (.il 4 (aO rw)):=by rw[NS,Mo,jJ,NV,Mf hir,hrw];rfl
   have b3:Nat.blt (i:Int).toNat rows.length=true:=Ml (by simp;omega);have hM:=Ko ⟨kind,name,lo,hi,ws,ls,vals,kids,.mk vk vn vs vks⟩ rw;have hL:(rows.take (i+1)).map (dQ name)=(rows.take i).map (dQ name)++[dQ name rw]:=by rw[Mn hir,←hrw];simp
   simp only at hM;obtain⟨⟨m1,m2,m3,m4⟩,hmv⟩:∃mv,mv=dQ name rw:=⟨_,rfl⟩
   rw[←hmv] at hM hL;refine Rr ?_;repeat((first|refine bW ?_|refine aM b3 ?_|refine aD e3 ?_);refine Rr ?_)
   refine hM.go ?_ (.cons (aQ ⟨kind,name,lo,hi,ws,ls,vals,kids,.mk vk vn vs vks⟩) cG);refine Rr ?_;refine aM (bO rfl rfl (by rw[aB]) (by simp;omega)) ?_;refine Rr ?_;repeat((first|refine bW ?_|refine aM b3 ?_|refine aD e3 ?_);refine Rr ?_)
   exact .mk (i+1) [(0,0),(1,1),(2,2),(3,3),(15,4)] om
    (aH _ rfl ⟨aI 0 (aW bs),aI 1 (.cons (aQ _) .nil),aI 2 cG,aI 3 (fW _),⟨15,_,rfl,rfl,.eq cG (by rw[hL,fB];rfl)⟩,trivial⟩ ⟨aL,aL,⟨_,rfl,.sl 3 3 0 _ rfl⟩,⟨_,rfl,.slE rfl (by rw[hL];simp)⟩,⟨_,rfl,.w64 om ⟨om,om⟩⟩,trivial⟩) om
  ·have hie:i=rows.length:=by simp at h;omega
   rw[hie,M2];have hmo:∀v∈rows.map (dQ name),gC v:=by
    intro v hv;obtain⟨r,hr,rfl⟩:=Mz.1 hv;have:=hrr r hr;exact HS hname om this.2
   have hS:=KK (rows.map (dQ name)) (by simp;omega) hmo;have hseq2:mF bs ⟨kind,name,lo,hi,ws,ls,vals,kids,.mk vk vn vs vks⟩=⟨dD (rows.map (dQ name)),false⟩:=by rw[hseq,hro]
   rw[hseq2];generalize rows.map (dQ name)=mv at hS ⊢;generalize dD mv=sv at hS ⊢;refine Rr ?_;refine aF.pre bI [(0,0),(1,1),(2,2),(3,3)] (mem':=[(0,.row 125 2 (bE bs)),(1,.row 59 12 [bN ⟨kind,name,lo,hi,ws,ls,vals,kids,.mk vk vn vs vks⟩]),(2,.row 125 2 [.agg [.nsl,.bool false]]),(3,.row 29 1 (jJ rows))]) (args':=[.il 4 (aO mv)]) rfl
    ⟨aI 0 (aW bs),aI 1 (.cons (aQ _) .nil),aI 2 cG,aI 3 (fW _),trivial⟩ (.cons (.fz' rfl rfl (by rw[aB];omega) (by rw[NQ];exact M7 (by rw[aB];omega)) cG) .nil) ?_
   refine hS.go ?_;refine Rr ?_;exact cA (r':=iU ⟨sv,false⟩) (n':=1) (m':=[(0,.row 125 2 (bE bs))]) [(0,0)] rfl ⟨aI 0 (aW bs),trivial⟩ (.same _ (jU ⟨sv,false⟩)) ⟨rfl,rfl⟩
set_option maxHeartbeats 8000000
theorem Gy(x:Nd)(bs:List fK)(h3:x.kind=3)(hname:x.name.length<=4294967296)(hkl:x.kids.length<=65536)(hk:∀(j:Nat) (k:Int),x.kids[j]? = some k->0<=k/\k<bs.length)(hb:∀b∈bs,b.vals.length<=1024/\∀v∈b.vals,gC v) :
  aF prog [] 139 [bN x,.sl 0 0 bs.length] [(0,.row 125 2 (bE bs))] 1 fun r m _=>r=iU (cM x bs)/\m=[(0,.row 125 2 (bE bs))]:=by
 have hS:=MG x bs hname hkl hk hb;have e:cM x bs=mF bs x:=by unfold cM;rw[Mm om,Mm om,Mr h3]
 rw[e];generalize mF bs x=q at hS ⊢;obtain⟨sv,sm⟩:=q;have hnn:=aQ x;obtain⟨kind,name,lo,hi,ws,ls,vals,kids,⟨vk,vn,vs,vks⟩⟩:=x;simp only at h3;subst h3;refine aN bI func139 rfl ?_;refine Rr ?_;refine aF.use1 bI hS 0 rfl (aW bs) (.cons (.same _ hnn) (.cons (.sl 0 0 0 _ rfl) .nil)) ?_;rintro r m n ⟨rfl,rfl⟩;refine⟨_,rfl,jU _,aW bs, ?_⟩;refine Rr ?_;exact cA (r':=iU ⟨sv,sm⟩) (n':=1) (m':=[(0,.row 125 2 (bE bs))]) [(0,0)] rfl ⟨aI 0 (aW bs),trivial⟩ (.same _ (jU ⟨sv,sm⟩)) ⟨rfl,rfl⟩
theorem LF(i:Nat)(x:Nd)(bs:List fK)(hx:gW i x)(hl:i=bs.length)(hb:zG bs) :
  aF prog [] 139 [bN x,.sl 0 0 bs.length] [(0,.row 125 2 (bE bs))] 1 fun r m _=>r=iU (cM x bs)/\m=[(0,.row 125 2 (bE bs))]:=by
 subst hl;have hk:=hx.kids;have hn:=eR hx.num;rcases(show x.kind=0∨x.kind=1∨x.kind=2∨x.kind=3∨x.kind=4 by have:=hx.kind;omega) with h|h|h|h|h
 ·exact GK x bs h
 ·exact C9 x bs h hn.2.1 hn.1 hn.2.2.1 hn.2.2.2
 ·exact F7 x bs h hx.klen hk hb
 ·exact Gy x bs h hx.ok.name hx.klen hk hb
 ·exact Fp x bs h hx.klen hk hb
abbrev tM(ns:List Nd):aK:=[(0,.row 59 12 (a7 ns))]
theorem wT{l:List Nd}{k n:Nat}(h:k<l.length)(hn:l.length=n):∃x,l[k]? = some x/\l[k]=x/\(a7 l)[0+(k:Int).toNat]? = some (bN x)/\Nat.blt (k:Int).toNat n=true:=
 ⟨l[k],Mf h,rfl,by simp[mD,Mf h],Ml (by simp;omega)⟩
theorem KG(ns:List Nd)(n:Nat)(hn:n<=ns.length)(hl:ns.length<=100000)(hg:∀(i:Nat) (x:Nd),i<n->ns[i]? = some x->gW i x) :
  aF prog [] 67 [.agg [.sl 0 0 ns.length],.int .i64 n] (tM ns) 1 fun r m k=>r = .sl 1 0 n/\m=[(0,.row 59 12 (a7 ns)),(1,.row 125 2 (bE (aJ (ns.take n))))]/\k=2:=by
 refine aN bI func67 rfl ?_;refine Rr ?_;refine a6.ph 125 2 ?_;refine a6.at bI (fun i:Nat=>i<=n)
  (fun i=>⟨[(1,.int .i64 n),(2,.ptr 1 0 0),(5,.sl 2 0 i),(6,.int .i64 i)],[(0,.row 59 12 (a7 ns)),(1,.row 25 1 [.agg [.sl 0 0 ns.length]]),(2,.row 125 2 (bE (aJ (ns.take i))))],3,23⟩)
  (fun i=>n-i) 0 [(0,0),(1,1),(2,2)] (by simp)
  (aH _ rfl ⟨aI 0 (aR _),⟨1,_,rfl,rfl,.cons (.agg (.cons (.sl 0 0 0 _ rfl) .nil)) .nil⟩,aI 2 .nil,trivial⟩ ⟨aG,aL,⟨_,rfl,.nslk 2 2 _ rfl rfl⟩,aG,trivial⟩) ?_
 intro i hi;refine Rr ?_;refine aE (fun h=>?_) (fun h=>?_)
 ·have hin:i<n:=by simp at h;omega
  obtain⟨x,hx1,hx2,ex,bx⟩:=wT (l:=ns) (k:=i) (n:=ns.length) om rfl;have hgx:=hg i x hin hx1;have htl:(aJ (ns.take i)).length=i:=by rw[dP];simp;omega
  have hL:=LF i x (aJ (ns.take i)) hgx htl.symm (jF _ fun j y hy=>by
   have hj:=(Mi.1 hy).1;rw[NA,Mr (by simp at hj;omega)] at hy;exact hg j y (by simp at hj;omega) hy)
  have hnx:aJ (ns.take (i+1))=aJ (ns.take i)++[cM x (aJ (ns.take i))]:=by rw[Mn om,hx2,Go.Ax.f0]
  have hxn:=aQ x;have hxc:(bN x).cells.length=12:=by obtain⟨kind,name,lo,hi,ws,ls,vals,kids,⟨vk,vn,vs,vks⟩⟩:=x;rfl
  generalize cM x (aJ (ns.take i))=nl at hL hnx;obtain⟨bs,hbs⟩:∃bs,bs=aJ (ns.take i):=⟨_,rfl⟩
  rw[←hbs] at hL hnx htl ⊢;obtain⟨kind,name,lo,hi,ws,ls,vals,kids,⟨vk,vn,vs,vks⟩⟩:=x;refine Rr ?_;repeat((first|refine aM bx ?_|refine aD ex ?_);refine Rr ?_)
  refine aF.use1 bI hL 2 rfl (aW bs) (.cons (.same _ hxn) (.cons (.slE rfl htl.symm) .nil)) ?_;rintro r m k ⟨rfl,rfl⟩;refine⟨_,rfl,jU _,aW bs, ?_⟩;refine Rr ?_;refine aM (bO rfl rfl (by rw[m7,htl]) (by simp;omega)) ?_;refine Rr ?_;exact .mk (i+1) [(0,0),(1,1),(4,2)] om
   (aH _ rfl ⟨aI 0 (aR _),⟨1,_,rfl,rfl,.cons (.agg (.cons (.sl 0 0 0 _ rfl) .nil)) .nil⟩,⟨4,_,rfl,rfl,.eq (aW _) (by rw[hnx];simp[bE])⟩,trivial⟩ ⟨aG,aL,⟨_,rfl,.slE rfl (by simp)⟩,⟨_,rfl,.w64 om ⟨om,om⟩⟩,trivial⟩) om
 ·have hin:i=n:=by simp at h;omega
  subst hin;refine Rr ?_;exact cA (r':=.sl 1 0 i) (n':=2) (m':=[(0,.row 59 12 (a7 ns)),(1,.row 125 2 (bE (aJ (ns.take i))))]) [(0,0),(2,1)] rfl ⟨aI 0 (aR _),aI 2 (aW _),trivial⟩ (.sl 2 1 0 _ rfl) ⟨rfl,rfl,rfl⟩
set_option maxHeartbeats 8000000
theorem F9{ns:List Nd}{i:Nat}(hi:i<ns.length):(aJ (ns.take (i+1)))[i]? = some (cP (aJ (ns.take (i+1))) i):=by
 have:i<(aJ (ns.take (i+1))).length:=by rw[dP];simp;omega
 unfold cP;rw[Mk,Mo,Mf this];rfl
theorem Ee(ns:List Nd)(i:Nat)(hi:i<ns.length)(hl:ns.length<=100000)(hg:∀(j:Nat) (x:Nd),j<i+1->ns[j]? = some x->gW j x) :
  aF prog [] 30 [.agg [.sl 0 0 ns.length],.int .i64 i] (tM ns) 1 fun r m _=>r = .tup [.il 4 (aO (cP (aJ (ns.take (i+1))) i).vals),.bool (!(cP (aJ (ns.take (i+1))) i).many)]/\m=tM ns:=by
 have hL:=KG ns (i+1) om hl hg;have hw:IntKind.i64.wrap ((i:Int)+1)=((i+1:Nat):Int):=w64 om ⟨om,om⟩;have hat:=F9 hi;have hlen:(aJ (ns.take (i+1))).length=i+1:=by rw[dP];simp;omega
 generalize cP (aJ (ns.take (i+1))) i=b at hat ⊢;generalize aJ (ns.take (i+1))=bs at hL hat hlen;obtain⟨bv,bm⟩:=b;have e2:(bE bs)[0+((i:Nat):Int).toNat]? = some (iU ⟨bv,bm⟩):=by rw[NS,Mo,iV,hat];rfl
 have b2:Nat.blt ((i:Nat):Int).toNat (i+1)=true:=Ml (by simp);refine aN bI func30 rfl ?_;refine Rr ?_;rw[hw];refine aF.useN bI [(0,0)] hL rfl (.cons (.agg' (.cons (.sl 0 0 0 _ rfl) .nil)) (.s .nil)) ⟨aI 0 (aR _),trivial⟩ rfl ?_;rintro r m k ⟨rfl,rfl,rfl⟩;refine⟨[(0,0),(1,2)],.sl 2 0 (i+1),[(0,.row 59 12 (a7 ns)),(2,.row 125 2 (bE bs))],3,.sl 1 2 0 _ rfl,⟨aI 0 (aR _),aI 1 (aW _),trivial⟩,rfl, ?_⟩;refine Rr ?_;repeat((first|refine bW ?_|refine aM b2 ?_|refine aD e2 ?_);refine Rr ?_)
 exact cA (r':=.tup [.il 4 (aO bv),.bool (!bm)]) (n':=1) (m':=tM ns) [(0,0)] rfl ⟨aI 0 (aR _),trivial⟩ (.same _ nn) ⟨rfl,rfl⟩
theorem Kc(ns:List Nd)(x:Nd)(i:Nat)(hi:i<=ns.length)(hl:ns.length<=100000)(hg:∀(j:Nat) (x:Nd),j<i->ns[j]? = some x->gW j x)(hx:oH x)(hk0:0<x.kids.length)(hk:∀(j:Nat) (k:Int),x.kids[j]? = some k->0<=k/\k<i) :
  aF prog [] 63 [.agg [.sl 0 0 ns.length],bN x] (tM ns) 1 fun r m _=>r = .int .i64 (fO ns x)/\m=tM ns:=by
 obtain⟨q,hq⟩:∃q,x.kids[0]? = some q:=⟨x.kids[0],Mf hk0⟩
 obtain⟨q1,q2⟩:=hk 0 q hq;obtain⟨qn,rfl⟩:=Mx q1;have hgd:x.kids.getD 0 0=qn:=by rw[Mk,hq];rfl
 have hV:=Ee ns qn om hl fun j y hj hy=>hg j y om hy
 have hbl:=oE (jF (ns.take (qn+1)) fun j y hy=>hg j y (by have:=(iK hy).2;omega) (iK hy).1) qn;have hbe:fO ns x=if (cP (aJ (ns.take (qn+1))) qn).many=true then 4 else if cS (cP (aJ (ns.take (qn+1))) qn).vals x.values=true then 0 else 1:=by
  unfold fO;simp only[hgd,Mo]
 rw[hbe];generalize cP (aJ (ns.take (qn+1))) qn=b at hV hbl ⊢;obtain⟨bv,bm⟩:=b;simp only at hV hbl ⊢;have hS:=Iv bv x.values om hbl.2;generalize cS bv x.values=sm at hS ⊢;have ek:(aX x.kids)[(0:Int).toNat]? = some (.int .i64 (qn:Int)):=by rw[bL];simp[hq]
 obtain⟨kind,name,lo,hi',ws,ls,vals,kids,⟨vk,vn,vs,vks⟩⟩:=x;simp only at hS ek;refine aN bI func63 rfl ?_;refine Rr ?_;repeat((first|refine bW ?_|refine aD ek ?_);refine Rr ?_)
 refine aF.use1 bI hV 0 rfl (aR _) (.cons (.agg' (.cons (.sl 0 0 0 _ rfl) .nil)) (.s .nil)) ?_;rintro r m k ⟨rfl,rfl⟩;refine⟨_,rfl,nn,aR _, ?_⟩;cases bm with
 | true=>
  refine Rr ?_;repeat((first|refine bW ?_|refine aD ek ?_);refine Rr ?_)
  exact cA (r':=.int .i64 4) (n':=1) (m':=tM ns) [(0,0)] rfl ⟨aI 0 (aR _),trivial⟩ (.same _ nn) ⟨rfl,rfl⟩
 | false=>
  refine Rr ?_;repeat((first|refine bW ?_|refine aD ek ?_);refine Rr ?_)
  refine hS.go ?_;cases sm with
  | true=>
   refine Rr ?_;exact cA (r':=.int .i64 0) (n':=1) (m':=tM ns) [(0,0)] rfl ⟨aI 0 (aR _),trivial⟩ (.same _ nn) ⟨rfl,rfl⟩
  | false=>
   refine Rr ?_;exact cA (r':=.int .i64 1) (n':=1) (m':=tM ns) [(0,0)] rfl ⟨aI 0 (aR _),trivial⟩ (.same _ nn) ⟨rfl,rfl⟩
theorem J8(ns:List Nd)(hl:ns.length<=100000)(ho:∀x∈ns,oH x/\x.values.length<=4294967290) :
  aF prog [] 25 [.agg [.sl 0 0 ns.length]] (tM ns) 1 fun r m _=>r = .int .i64 (bD ns)/\m=tM ns:=by
 have hfin:∀(e:Int) (mem:aK) (nx:Nat),lk mem 0=some (.row 59 12 (a7 ns))->e=bD ns->mJ 1 (fun r m (_:Nat)=>r = .int .i64 (bD ns)/\m=tM ns) (.int .i64 e) mem nx:=by
  intro e mem nx h0 he;exact cA (r':=.int .i64 e) (n':=1) (m':=tM ns) [(0,0)] rfl ⟨⟨0,_,rfl,h0,.same (aR _)⟩,trivial⟩ (.same _ nn) ⟨by rw[he],rfl⟩
 refine aN bI func25 rfl ?_;refine Rr ?_;refine aE (fun h=>?_) (fun h=>?_)
 ·have h1:4096<ns.length:=by simp at h;omega
  refine Rr ?_;exact hfin _ _ _ rfl (by unfold bD;rw[Mr h1])
 ·have h1:¬4096<ns.length:=by simp at h;omega
  have hvt:bD ns=bM [] ns:=by unfold bD;rw[Mm h1]
  refine Rr ?_;refine a6.ph 3 1 ?_;refine a6.ph 3 1 ?_;refine a6.at bI (fun i:Nat=>i<=ns.length/\bM [] (ns.take i)=0)
   (fun i=>⟨[(1,.ptr 1 0 0),(3,.sl 2 0 i),(4,.sl 3 0 i),(5,.int .i64 i)],[(0,.row 59 12 (a7 ns)),(1,.row 25 1 [.agg [.sl 0 0 ns.length]]),(2,.row 3 1 (aX (bX (ns.take i)))),(3,.row 3 1 (aX (bT (ns.take i))))],4,57⟩)
   (fun i=>ns.length-i) 0 [(0,0),(1,1),(2,2),(3,3)] ⟨by simp,by simp[bM]⟩
   (aH _ rfl ⟨aI 0 (aR _),⟨1,_,rfl,rfl,.cons (.agg (.cons (.sl 0 0 0 _ rfl) .nil)) .nil⟩,aI 2 .nil,aI 3 .nil,trivial⟩ ⟨aL,⟨_,rfl,.nslk 2 2 _ rfl rfl⟩,⟨_,rfl,.nslk 3 3 _ rfl rfl⟩,aG,trivial⟩) ?_
  rintro i ⟨hi,hv0⟩;refine Rr ?_;refine aE (fun h=>?_) (fun h=>?_)
  ·have hin:i<ns.length:=by simp at h;omega
   obtain⟨x,hx1,hx2,ex,bx⟩:=wT (l:=ns) (k:=i) (n:=ns.length) hin rfl;have hxm:=My hx1;obtain⟨hxo,hxv⟩:=ho x hxm;have hsplit:ns=ns.take i++x::ns.drop (i+1):=by rw[←hx2,←List.drop_eq_getElem_cons hin,List.take_append_drop]
   have hti:(ns.take i).length=i:=by simp;omega
   have htn:ns.take (i+1)=ns.take i++[x]:=by rw[Mn hin,hx2]
   have hgood:=i7 (ns.take i) (fun y hy=>(ho y (Nf hy)).1) hv0;obtain⟨hls,hss⟩:=mW (ns.take i) hv0;have hll:(bX (ns.take i)).length=i:=by rw[iO,hti]
   have hsl:(bT (ns.take i)).length=i:=by rw[iC,hti]
   have hstop:=fun hs=>uJ (l:=ns.take i) (r:=ns.drop (i+1)) (x:=x) hv0 hs
   rw[←hsplit] at hstop;have hgo:=eG [] (ns.take i) x hv0;rw[NM,←htn] at hgo;have hN:=LL i x om hxo hxv;have hlt:=iX (ns.take i) x;have hst:=iS (ns.take i) x;rw[←htn] at hlt hst;have hse:e6 (ns.take i) (bX (ns.take i)) (bT (ns.take i)) x=if Go.Ax.d8 i x≠0 then Go.Ax.d8 i x else if 256<Go.Ax.f9 (bX (ns.take i)) x∨1024<iH (bT (ns.take i)) x then 4 else if x.kind=4 then fO (ns.take i) x else 0:=by
    unfold e6;rw[hti]
   have hbnd:(0<x.kids.length/\∀(j:Nat) (k:Int),x.kids[j]? = some k->0<=k/\k<i)->fO (ns.take i) x=fO ns x:=by
    rintro⟨h0,hk⟩;obtain⟨q,hq⟩:∃q,x.kids[0]? = some q:=⟨x.kids[0],Mf h0⟩
    obtain⟨q1,q2⟩:=hk 0 q hq;have hgd:x.kids.getD 0 0=q:=by rw[Mk,hq];rfl
    unfold fO;simp only[hgd];rw[OW,OE om]
   have hxn:=aQ x;obtain⟨ne,hne⟩:∃ne,ne=Go.Ax.d8 i x:=⟨_,rfl⟩
   rw[←hne] at hN hse;by_cases n0:ne=0
   ·subst n0;have hok:=i8 hne.symm;have h4:4<=x.kind->0<x.kids.length:=fun h=>by have:=hok.bind (by have:=hok.kind;omega);omega
    have hL:=Gp (bX (ns.take i)) x hxo om hls (by rw[hll];exact hok.kids) h4 hok.kind;have hS:=KD (bT (ns.take i)) x hxo om hss (by rw[hsl];exact hok.kids) h4 hok.kind;have hB:=Kc ns x i om hl (fun j y hj hy=>hgood j y (by rw[NA,Mr hj];exact hy)) hxo;rw[Mm (by simp)] at hse;generalize bX (ns.take i)=lsI at hL hll hlt hse hstop hgo hls ⊢;generalize bT (ns.take i)=ssI at hS hsl hst hse hstop hgo hss ⊢;generalize Go.Ax.f9 lsI x=ln at hL hlt hse;generalize iH ssI x=sn at hS hst hse;obtain⟨kind,name,lo,hi',ws,ls,vals,kids,⟨vk,vn,vs,vks⟩⟩:=x;simp only at hse h4 hB hbnd hok;refine Rr ?_;repeat((first|refine aM bx ?_|refine aD ex ?_);refine Rr ?_)
    refine hN.go ?_ (.cons (.int _ _) (.cons hxn .nil));refine Rr ?_;refine aF.useApp bI hL 2 rfl (aS _) (.cons (.slE rfl hll.symm) (.cons (.same _ hxn) .nil)) ?_;rintro len ys ⟨rfl,rfl⟩;refine Rr ?_;refine aF.useApp bI hS 3 rfl (aS _) (.cons (.slE rfl hsl.symm) (.cons (.same _ hxn) .nil)) ?_;rintro len ys ⟨rfl,rfl⟩;have el:(aX (lsI++[ln]))[0+((i:Nat):Int).toNat]? = some (.int .i64 ln):=by simp[aX,hll]
    have bl:Nat.blt ((i:Nat):Int).toNat (lsI.length+1)=true:=Ml (by simp;omega);have es:(aX (ssI++[sn]))[0+((i:Nat):Int).toNat]? = some (.int .i64 sn):=by simp[aX,hsl]
    have bs':Nat.blt ((i:Nat):Int).toNat (ssI.length+1)=true:=Ml (by simp;omega);refine Rr ?_;repeat((first|refine aM bl ?_|refine aD el ?_);refine Rr ?_)
    refine aE (fun h2=>?_) (fun h2=>?_)
    ·have h3:256<ln:=by simpa using h2
     rw[h2];rw[Mr (.inl h3)] at hse;have hres:=hstop (by rw[hse];omega);refine Rr ?_;exact hfin _ _ _ rfl (by rw[hvt,hres,hse])
    ·have h3:¬256<ln:=by simpa using h2
     rw[h2];refine Rr ?_;repeat((first|refine aM bs' ?_|refine aD es ?_);refine Rr ?_)
     refine aE (fun h4'=>?_) (fun h4'=>?_)
     ·have h5:1024<sn:=by simpa using h4'
      rw[h4'];rw[Mr (.inr h5)] at hse;have hres:=hstop (by rw[hse];omega);refine Rr ?_;exact hfin _ _ _ rfl (by rw[hvt,hres,hse])
     ·have h5:¬1024<sn:=by simpa using h4'
      rw[h4'];rw[Mm om] at hse;by_cases k4:kind=4
      ·rw[Mr k4] at hse;have h40:=h4 om;have hB:=hB h40 hok.kids;rw[hbnd ⟨h40,hok.kids⟩] at hse;generalize fO ns ⟨kind,name,lo,hi',ws,ls,vals,kids,.mk vk vn vs vks⟩=be at hB hse;subst k4;refine Rr ?_;refine aF.use1 bI hB 0 rfl (aR _) (.cons (.agg' (.cons (.sl 0 0 0 _ rfl) .nil)) (.cons (.same _ hxn) .nil)) ?_;rintro r m k ⟨rfl,rfl⟩;refine⟨_,rfl,nn,aR _, ?_⟩;by_cases be0:be=0
       ·subst be0;rw[hse] at hgo;refine Rr ?_;exact .mk (i+1) [(0,0),(1,1),(5,2),(6,3)] ⟨om,hgo⟩
         (aH _ rfl ⟨aI 0 (aR _),⟨1,_,rfl,rfl,.cons (.agg (.cons (.sl 0 0 0 _ rfl) .nil)) .nil⟩,⟨5,_,rfl,rfl,.eq (aS _) (by rw[hlt])⟩,⟨6,_,rfl,rfl,.eq (aS _) (by rw[hst])⟩,trivial⟩ ⟨aL,⟨_,rfl,.slE rfl (by rw[hll])⟩,⟨_,rfl,.slE rfl (by rw[hsl])⟩,⟨_,rfl,.w64 om ⟨om,om⟩⟩,trivial⟩) om
       ·have d5:(be != 0)=true:=by simpa using be0
        have hres:=hstop (by rw[hse];exact be0);refine Rr ?_;rw[d5];refine Rr ?_;exact hfin _ _ _ rfl (by rw[hvt,hres,hse])
      ·rw[Mm k4] at hse;have d4:(kind == 4)=false:=by simpa using k4
       rw[hse] at hgo;refine Rr ?_;rw[d4];refine Rr ?_;exact .mk (i+1) [(0,0),(1,1),(5,2),(6,3)] ⟨om,hgo⟩
        (aH _ rfl ⟨aI 0 (aR _),⟨1,_,rfl,rfl,.cons (.agg (.cons (.sl 0 0 0 _ rfl) .nil)) .nil⟩,⟨5,_,rfl,rfl,.eq (aS _) (by rw[hlt])⟩,⟨6,_,rfl,rfl,.eq (aS _) (by rw[hst])⟩,trivial⟩ ⟨aL,⟨_,rfl,.slE rfl (by rw[hll])⟩,⟨_,rfl,.slE rfl (by rw[hsl])⟩,⟨_,rfl,.w64 om ⟨om,om⟩⟩,trivial⟩) om
   ·have d1:(ne != 0)=true:=by simpa using n0
    have hse':=hse;rw[Mr n0] at hse';have hres:=hstop (by rw[hse'];exact n0);rw[hse'] at hres;obtain⟨kind,name,lo,hi',ws,ls,vals,kids,⟨vk,vn,vs,vks⟩⟩:=x;refine Rr ?_;repeat((first|refine aM bx ?_|refine aD ex ?_);refine Rr ?_)
    refine hN.go ?_ (.cons (.int _ _) (.cons hxn .nil));refine Rr ?_;rw[d1];refine Rr ?_;exact hfin _ _ _ rfl (by rw[hvt,hres])
  ·have hin:i=ns.length:=by simp at h;omega
   subst hin;rw[M2] at hv0;refine Rr ?_;exact hfin _ _ _ rfl (by rw[hvt,hv0])
set_option maxHeartbeats 8000000
def zV:aT:=.mk 0 0 [] []
def BX(v:aT):Nd:=⟨0,[],0,0,[],[],[],[],v⟩
def uN(ns:List Nd)(l:List Int)(i k:Int):Nd:=
 let b:=cP (aJ (ns.take ((lO l i 0).toNat+1))) (lO l i 0)
 if b.many=true∨6<b.vals.length then BX (qC k) else⟨4,[],0,0,[],[],b.vals,lO l i 0::(List.range b.vals.length).map fun j:Nat=>lO l i ((j:Int)+1),zV⟩
theorem kH{l:List Int}{i j:Int}(hi:1<=i):0<=lO l i j/\lO l i j<i:=by
 unfold lO;have hp:=gR (l:=l) (i:=3*i+j+2) (most:=1000000) om;split
 ·exact⟨N0 _ (N1 hp.1 om),Nu _ om⟩
 ·have h0:0<=((iL l (3*i+j+2) 1000000).tdiv 3).tmod 3:=N0 _ (N1 hp.1 om);omega
theorem Ld(ns:List Nd)(l:List Int)(k:Int)(hl:∀x∈l,i64 x)(h1:1<=ns.length)(h2:ns.length<=1000)(hk0:0<=k)(hk1:k<=1000000)(hg:∀(j:Nat) (x:Nd),ns[j]? = some x->gW j x) :
    aF prog [] 24 [.agg [.sl 0 0 ns.length],.il 1 (aX l),.int .i64 ns.length,.int .i64 k] (tM ns) 1 fun r m _=>r=bN (uN ns l ns.length k)/\m=tM ns:=by
  have hfin:∀(x:Nd) (r:AV) (mem:aK) (nx:Nat),lk mem 0=some (.row 59 12 (a7 ns))->Cv mem [(0,0)] r (bN x)->x=uN ns l ns.length k->mJ 1 (fun r m (_:Nat)=>r=bN (uN ns l ns.length k)/\m=tM ns) r mem nx:=by
    intro x r mem nx h0 hr hx;exact cA (r':=bN x) (n':=1) (m':=tM ns) [(0,0)] rfl ⟨⟨0,_,rfl,h0,.same (aR _)⟩,trivial⟩ hr ⟨by rw[hx],rfl⟩
  have hK0:=HN l ns.length 0 hl om om om om;obtain⟨q1,q2⟩:=kH (l:=l) (i:=(ns.length:Int)) (j:=0) om;obtain⟨q,hq⟩:=Mx q1;have hb:uN ns l ns.length k=if (cP (aJ (ns.take (q+1))) q).many=true∨6<(cP (aJ (ns.take (q+1))) q).vals.length then BX (qC k) else⟨4,[],0,0,[],[],(cP (aJ (ns.take (q+1))) q).vals,(q:Int)::(List.range (cP (aJ (ns.take (q+1))) q).vals.length).map fun j:Nat=>lO l ns.length ((j:Int)+1),zV⟩:=by
    unfold uN;simp only[hq,Mo]
  have hV:=Ee ns q om om fun j y _ hy=>hg j y hy
  rw[hq] at hK0;simp only[hb] at hfin ⊢;generalize cP (aJ (ns.take (q+1))) q=b at hV hfin ⊢;obtain⟨bv,bm⟩:=b;simp only at hV hfin ⊢;have hLf:=Je k hk0 hk1;obtain⟨⟨f1,f2,f3,f4⟩,hf⟩:∃f,f=qC k:=⟨_,rfl⟩
  rw[←hf] at hLf hfin ⊢;have hleaf:∀(mem:aK) (nx:Nat),lk mem 0=some (.row 59 12 (a7 ns))->(bm=true∨6<bv.length)->mJ 1 (fun r m (_:Nat)=>r=bN (if bm=true∨6<bv.length then BX (.mk f1 f2 f3 f4) else⟨4,[],0,0,[],[],bv,(q:Int)::(List.range bv.length).map fun j:Nat=>lO l ns.length ((j:Int)+1),zV⟩)/\m=tM ns)
      (.agg [.int .i64 0,.str [],.int .i64 0,.int .i64 0,.nsl,.nsl,.nsl,.nsl,.int .i64 f1,.int .i64 f2,.str f3,.il 4 (aO f4)]) mem nx:=by
    intro mem nx h0 hc;refine hfin (BX (.mk f1 f2 f3 f4)) _ mem nx h0 ?_ (by rw[Mr hc]);exact .agg' (.s (.s (.s (.s (.cons (.nil 1) (.cons (.nil 1) (.cons (.nil 4) (.cons (.nil 1) (.s (.s (.s (.s .nil))))))))))))
  refine aN bI func24 rfl ?_;refine Rr ?_;refine hK0.go ?_;refine Rr ?_;refine aF.use1 bI hV 0 rfl (aR _) (.cons (.agg' (.cons (.sl 0 0 0 _ rfl) .nil)) (.s .nil)) ?_;rintro r m k' ⟨rfl,rfl⟩;refine⟨_,rfl,nn,aR _, ?_⟩;cases bm with
  | true=>
    refine Rr ?_;refine hLf.go ?_;refine Rr ?_;exact hleaf _ _ rfl (.inl rfl)
  | false=>
    refine Rr ?_;refine aE (fun h=>?_) (fun h=>?_)
    · have h6:6<bv.length:=by rw[aB] at h;simp at h;omega
      rw[h];refine Rr ?_;refine hLf.go ?_;refine Rr ?_;exact hleaf _ _ rfl (.inr h6)
    · have h6:¬6<bv.length:=by rw[aB] at h;simp at h;omega
      rw[h];refine Rr ?_;refine a6.at bI (fun j:Nat=>j<=bv.length)
        (fun j=>⟨[(1,.il 1 (aX l)),(2,.int .i64 ns.length),(8,.ptr 2 0 0),(10,.il 4 (aO bv)),(12,.ptr 3 0 0),(13,.int .i64 j)],
          [(0,.row 59 12 (a7 ns)),(2,.row 59 12 [.agg [.int .i64 0,.str [],.int .i64 0,.int .i64 0,.nsl,.nsl,.nsl,.nsl,.int .i64 0,.int .i64 0,.str [],.nsl]]),
           (3,.row 59 12 [.agg [.int .i64 4,.str [],.int .i64 0,.int .i64 0,.nsl,.nsl,.il 4 (aO bv),.sl 4 0 (j+1),.int .i64 0,.int .i64 0,.str [],.nsl]]),(4,.row 3 1 (aX ((q:Int)::(List.range j).map fun j:Nat=>lO l ns.length ((j:Int)+1))))],5,54⟩)
        (fun j=>bv.length-j) 0 [(0,0),(2,2),(4,3),(3,4)] (by simp)
        (aH _ rfl ⟨aI 0 (aR _),aI 2 cG,⟨4,_,rfl,rfl,.cons (.agg (.s (.s (.s (.s (.s (.s (.s (.cons (.sl 3 4 0 1 rfl) (.s (.s (.s (.s .nil))))))))))))) .nil⟩,⟨3,_,rfl,rfl,.eq (aS _) rfl⟩,trivial⟩
          ⟨aG,aG,aL,aG,aL,aG,trivial⟩) ?_
      intro j hj;refine Rr ?_;refine aE (fun h=>?_) (fun h=>?_)
      · have hjl:j<bv.length:=Cj h
        have hw:IntKind.i64.wrap ((j:Int)+1)=(j:Int)+1:=fC ⟨om,om⟩;have hKj:=HN l ns.length ((j:Int)+1) hl om om om om;refine Rr ?_;rw[hw];refine hKj.go ?_;refine Rt ?_;refine aM (bO rfl rfl (by rw[aC];simp) (by simp;omega)) ?_;refine Rt ?_;exact .mk (j+1) [(0,0),(2,2),(3,3),(16,4)] om
          (aH _ rfl ⟨aI 0 (aR _),aI 2 cG,⟨3,_,rfl,rfl,.cons (.agg (.s (.s (.s (.s (.s (.s (.s (.cons (.slE rfl (by simp)) (.s (.s (.s (.s .nil))))))))))))) .nil⟩,⟨16,_,rfl,rfl,.eq (aS _) (by rw[Ov];simp[aX])⟩,trivial⟩
            ⟨aG,aG,aL,aG,aL,⟨_,rfl,.w64 om ⟨om,om⟩⟩,trivial⟩) om
      · have hje:j=bv.length:=by have:=Ct h;omega
        subst hje;refine Rr ?_;refine hfin ⟨4,[],0,0,[],[],bv,(q:Int)::(List.range bv.length).map fun j:Nat=>lO l ns.length ((j:Int)+1),zV⟩ _ _ _ rfl ?_ (by rw[Mm (by simp;omega)]);exact .agg' (.s (.s (.s (.s (.cons (.nil 1) (.cons (.nil 1) (.s (.cons (.fz' (id:=4) rfl rfl (by rw[aC];simp) (by rw[NQ];exact M7 (by rw[aC];simp)) (aS _)) (.s (.s (.s (.cons (.nil 4) .nil))))))))))))
set_option maxHeartbeats 8000000
theorem l9{α:Type}{p:α->Prop}{l:List α}{y:α}(h:∀x∈l,p x)(hy:p y):∀x∈l++[y],p x:=fun x hx=>by
 rcases Mv.1 hx with hx|hx
 ·exact h x hx
 ·simp at hx;rw[hx];exact hy
theorem Fg{ns:List Nd}(hT:gO ns)(h1:1<=ns.length)(h2:ns.length<=1000){l:List Int}{k:Int}(hk:0<=k):Hi (uN ns l ns.length k):=by
 have z0:i64 0:=⟨om,om⟩
 unfold uN;simp only;split
 ·have:=Bv k hk;exact j9 z0 (by simp) z0 z0 (by simp) (by simp) (by simp) (by simp) (by simp) (by simp) (by simp) (by simp) this.1 om
 ·rename_i hc;rw[not_or] at hc;have hb:=fun j=>kH (l:=l) (i:=(ns.length:Int)) (j:=j) om
  obtain⟨q0,q1⟩:=hb 0;have hv:bM [] (ns.take ((lO l ns.length 0).toNat+1))=0:=fV (r:=ns.drop ((lO l ns.length 0).toNat+1)) (by rw[List.take_append_drop];exact hT.valid);have ho:∀x∈ns.take ((lO l ns.length 0).toNat+1),oH x:=fun x hx=>hT.ok x (Nf hx)
  have hs:=BT _ ho hv (lO l ns.length 0) q0 (by simp;omega);have hg:=oE (jF _ (i7 _ ho hv)) (lO l ns.length 0);refine j9 ⟨om,om⟩ (by simp) z0 z0 (by simp) (by simp) (by simp) (by simp) om (fun v hv=>⟨hg.2 v hv,by have:=hs v hv;omega⟩) (by simp;omega) (fun w hw=>?_) (fX z0 z0) (by simp[zV,aU,bR]);rcases Mj.1 hw with rfl|hw
  ·exact⟨om,om⟩
  ·obtain⟨j,_,rfl⟩:=Mz.1 hw;have:=hb ((j:Int)+1);exact⟨om,om⟩
theorem dW.joinAt{P:Program}{Γ:List (Nat × AV)}{B:Nat}{α:Type}{rest:Code}{Q:Exit->St->Prop}{G:Prop}(hΓ:∀p∈Γ,NN p.2)(R:α->Prop)(J:α->St)
  (h1:(∀(a:α) (s:St) (σ:List (Nat × Nat)),R a->Conv B σ s (J a)->dW P Γ B rest s Q)->G) (h2:∀a,R a->dW P Γ B rest (J a) Q):G:=h1 fun a s σ hr hc=>dW.conv hΓ hc (h2 a hr)
theorem LZ(l:List Int)(hl:∀x∈l,i64 x) :
  aF prog [] 5 [.il 1 (aX l)] [] 0 fun r m n=>∃ns:List Nd,gO ns/\ns.length<=14/\r = .agg [.sl 0 0 ns.length]/\m=tM ns/\n=1:=by
 have z0:i64 0:=⟨om,om⟩
 have hP0:=CB l 0 15 hl om;obtain⟨n0,n1⟩:=gR (l:=l) (i:=0) (most:=15) om;generalize iL l 0 15=nn0 at hP0 n0 n1;obtain⟨n,rfl⟩:=Mx n0;refine aN bI func5 rfl ?_;refine Rr ?_;refine hP0.go ?_;refine Rr ?_;refine a6.ph 59 12 ?_;refine a6.at bI (fun ns:List Nd=>gO ns/\ns.length<=n) (fun ns=>⟨[(0,.il 1 (aX l)),(2,.ptr 0 0 0),(3,.ptr 1 0 0),(4,.int .i64 n),(5,.int .i64 ns.length)],[(0,.row 25 1 [.agg [.nsl]]),(1,.row 25 1 [.agg [.sl 2 0 ns.length]]),(2,.row 59 12 (a7 ns))],3,181⟩) (fun ns=>n-ns.length) [] [(0,0),(1,1),(2,2)] ⟨⟨by simp[bM],by simp⟩,by simp⟩
  (aH _ rfl ⟨aI 0 cG,⟨1,_,rfl,rfl,.cons (.agg (.cons (.nslk 2 2 _ rfl rfl) .nil)) .nil⟩,aI 2 .nil,trivial⟩ ⟨aG,aL,aL,aG,aG,trivial⟩) ?_
 rintro ns ⟨hT,hns⟩;refine Rr ?_;refine aE (fun h=>?_) (fun h=>?_)
 ·have hlt:ns.length<n:=by simpa using h
  have hw1:IntKind.i64.wrap (1+(ns.length:Int))=1+(ns.length:Int):=fC ⟨om,om⟩;have hPk:=CB l (1+(ns.length:Int)) 1000000 hl om;obtain⟨kk0,kk1⟩:=gR (l:=l) (i:=1+(ns.length:Int)) (most:=1000000) om;generalize iL l (1+(ns.length:Int)) 1000000=kk at hPk kk0 kk1;have m8:=gI kk0 (show (0:Int)<8 by omega);have q8:=vA kk0 (show (0:Int)<8 by omega);have q80:0<=kk.tdiv 8:=N1 kk0 om;have hw8:IntKind.i64.wrap (kk.tdiv 8)=kk.tdiv 8:=fC ⟨om,om⟩;have m82:=gI q80 (show (0:Int)<2 by omega);refine Rr ?_;rw[hw1];refine hPk.go ?_
  refine' dW.joinAt (P:=prog) (B:=0) bI (fun kd:Int=>0<=kd/\kd<=4/\(2<=kd->2<=ns.length)) (fun kd=>⟨[(0,.il 1 (aX l)),(2,.ptr 0 0 0),(3,.ptr 1 0 0),(4,.int .i64 n),(5,.int .i64 ns.length),(6,.int .i64 kk),(7,.ptr 3 0 0)],[(0,.row 25 1 [.agg [.nsl]]),(1,.row 25 1 [.agg [.sl 2 0 ns.length]]),(2,.row 59 12 (a7 ns)),(3,.row 59 12 [.agg [.int .i64 kd,.str [],.int .i64 0,.int .i64 0,.nsl,.nsl,.nsl,.nsl,.int .i64 0,.int .i64 0,.str [],.nsl]])],4,181⟩) (fun hJ=>?_) (fun kd hkd=>?_)
  rotate_left 2
  ·by_cases hi2:ns.length<2
   ·have d2:decide ((ns.length:Int)<2)=true:=by simp;omega
    refine Rr ?_;rw[d2];refine Rr ?_;rw[hw8];obtain⟨kd,hkd⟩:∃kd,kd=(kk.tdiv 8).tmod 2:=⟨_,rfl⟩
    rw[←hkd] at m82 ⊢;have d5:decide (kd>5)=false:=by simp;omega
    refine Rr ?_;rw[d5]
    conv=>whnf
    refine dW.many ?_
    conv=>whnf
    exact hJ kd _ [(0,0),(1,1),(2,2),(3,3)] ⟨om,om,om⟩ (aH _ rfl ⟨aI 0 cG,⟨1,_,rfl,rfl,.cons (.agg (.cons (.sl 2 2 0 _ rfl) .nil)) .nil⟩,aI 2 (aR _),aI 3 cG,trivial⟩ ⟨aG,aL,aL,aG,aG,aG,aL,trivial⟩)
   ·have d2:decide ((ns.length:Int)<2)=false:=by simp;omega
    refine Rr ?_;rw[d2];refine Rr ?_;have hkd5:(kk.tmod 8 == 5)=false∨(kk.tmod 8 == 5)=true:=by cases (kk.tmod 8 == 5)<;>simp
    rcases hkd5 with e5|e5
    ·have n5:kk.tmod 8≠5:=by simpa using e5
     obtain⟨k8,hk8⟩:∃k8,k8=kk.tmod 8:=⟨_,rfl⟩
     rw[←hk8] at e5 n5 m8 ⊢;rcases(show k8<5∨5<k8 by omega) with k5|k5
     ·have d5:decide (k8>5)=false:=by simp;omega
      rw[e5];refine Rr ?_;rw[d5]
      conv=>whnf
      refine dW.many ?_
      conv=>whnf
      exact hJ k8 _ [(0,0),(1,1),(2,2),(3,3)] ⟨om,om,om⟩ (aH _ rfl ⟨aI 0 cG,⟨1,_,rfl,rfl,.cons (.agg (.cons (.sl 2 2 0 _ rfl) .nil)) .nil⟩,aI 2 (aR _),aI 3 cG,trivial⟩ ⟨aG,aL,aL,aG,aG,aG,aL,trivial⟩)
     ·have d5:decide (k8>5)=true:=by simp;omega
      have hw4:IntKind.i64.wrap (k8-4)=k8-4:=fC ⟨om,om⟩;rw[e5];refine Rr ?_;rw[d5]
      conv=>whnf
      refine dW.many ?_
      conv=>whnf
      refine i0.many ?_
      conv=>whnf
      rw[hw4];exact hJ (k8-4) _ [(0,0),(1,1),(2,2),(3,3)] ⟨om,om,om⟩ (aH _ rfl ⟨aI 0 cG,⟨1,_,rfl,rfl,.cons (.agg (.cons (.sl 2 2 0 _ rfl) .nil)) .nil⟩,aI 2 (aR _),aI 3 cG,trivial⟩ ⟨aG,aL,aL,aG,aG,aG,aL,trivial⟩)
    ·rw[e5];refine Rr ?_;rw[hw8];obtain⟨kd,hkd⟩:∃kd,kd=(kk.tdiv 8).tmod 2:=⟨_,rfl⟩
     rw[←hkd] at m82 ⊢;have d5:decide (kd>5)=false:=by simp;omega
     refine Rr ?_;rw[d5]
     conv=>whnf
     refine dW.many ?_
     conv=>whnf
     exact hJ kd _ [(0,0),(1,1),(2,2),(3,3)] ⟨om,om,om⟩ (aH _ rfl ⟨aI 0 cG,⟨1,_,rfl,rfl,.cons (.agg (.cons (.sl 2 2 0 _ rfl) .nil)) .nil⟩,aI 2 (aR _),aI 3 cG,trivial⟩ ⟨aG,aL,aL,aG,aG,aG,aL,trivial⟩)
  ·obtain⟨kd0,kd4,kd2⟩:=hkd;refine Rr ?_;refine HC bI (fun x:Nd=>Hi x) (fun x=>⟨[(0,.il 1 (aX l)),(2,.ptr 0 0 0),(3,.ptr 1 0 0),(4,.int .i64 n),(5,.int .i64 ns.length),(6,.int .i64 kk),(7,.ptr 3 0 0)],[(0,.row 25 1 [.agg [.nsl]]),(1,.row 25 1 [.agg [.sl 2 0 ns.length]]),(2,.row 59 12 (a7 ns)),(3,.row 59 12 [bN x])],4,181⟩) (fun Qr hQ=>?_) (fun x hx=>?_)
   ·rcases(show kd=0∨kd=1∨kd=2∨kd=3∨kd=4 by omega) with rfl|rfl|rfl|rfl|rfl
    ·have hLf:=Je (kk.tdiv 8) (N1 kk0 om) (by have:=vA kk0 (show (0:Int)<8 by omega);omega);have hlo:=Bv (kk.tdiv 8) (N1 kk0 om);generalize qC (kk.tdiv 8)=f at hLf hlo;obtain⟨f1,f2,f3,f4⟩:=f;refine Rr ?_;rw[hw8];refine hLf.go ?_;refine Rr ?_;exact hQ (BX (.mk f1 f2 f3 f4)) _ [(0,0),(1,1),(2,2),(3,3)] (j9 z0 (by simp) z0 z0 (by simp) (by simp) (by simp) (by simp) (by simp) (by simp) (by simp) (by simp) hlo.1 om) (aH _ rfl ⟨aI 0 cG,⟨1,_,rfl,rfl,.cons (.agg (.cons (.sl 2 2 0 _ rfl) .nil)) .nil⟩,aI 2 (aR _),⟨3,_,rfl,rfl,.cons (.agg (.s (.s (.s (.s (.cons (.nil 1) (.cons (.nil 1) (.cons (.nil 4) (.cons (.nil 1) (.s (.s (.s (.s .nil))))))))))))) .nil⟩,trivial⟩ ⟨aG,aL,aL,aG,aG,aG,aL,trivial⟩)
    ·refine Rr ?_;refine aE (fun h=>?_) (fun h=>?_)
     ·refine Rr ?_;exact hQ ⟨1,[],_,_,[],[],[],[],zV⟩ _ [(0,0),(1,1),(2,2),(3,3)] (j9 ⟨om,om⟩ (by simp) (GF _) (GF _) (by simp) (by simp) (by simp) (by simp) (by simp) (by simp) (by simp) (by simp) (fX z0 z0) (by simp[zV,aU,bR])) (aH _ rfl ⟨aI 0 cG,⟨1,_,rfl,rfl,.cons (.agg (.cons (.sl 2 2 0 _ rfl) .nil)) .nil⟩,aI 2 (aR _),⟨3,_,rfl,rfl,.cons (.agg (.s (.s (.s (.s (.cons (.nil 1) (.cons (.nil 1) (.cons (.nil 4) (.cons (.nil 1) (.s (.s (.s (.cons (.nil 4) .nil))))))))))))) .nil⟩,trivial⟩ ⟨aG,aL,aL,aG,aG,aG,aL,trivial⟩)
     ·refine Rr ?_;exact hQ ⟨1,[],_,_,[],[],[],[],zV⟩ _ [(0,0),(1,1),(2,2),(3,3)] (j9 ⟨om,om⟩ (by simp) (GF _) (GF _) (by simp) (by simp) (by simp) (by simp) (by simp) (by simp) (by simp) (by simp) (fX z0 z0) (by simp[zV,aU,bR])) (aH _ rfl ⟨aI 0 cG,⟨1,_,rfl,rfl,.cons (.agg (.cons (.sl 2 2 0 _ rfl) .nil)) .nil⟩,aI 2 (aR _),⟨3,_,rfl,rfl,.cons (.agg (.s (.s (.s (.s (.cons (.nil 1) (.cons (.nil 1) (.cons (.nil 4) (.cons (.nil 1) (.s (.s (.s (.cons (.nil 4) .nil))))))))))))) .nil⟩,trivial⟩ ⟨aG,aL,aL,aG,aG,aG,aL,trivial⟩)
    ·refine Rr ?_;rcases(show decide ((IntKind.i64.wrap (kk.tdiv 32)).tmod 3>0)=true∨decide ((IntKind.i64.wrap (kk.tdiv 32)).tmod 3>0)=false by cases decide ((IntKind.i64.wrap (kk.tdiv 32)).tmod 3>0)<;>simp) with hB|hB
     ·have hB:decide ((IntKind.i64.wrap (kk.tdiv 32)).tmod 3>0)=true:=hB;refine a6.ph 3 1 ?_;refine a6.ph 3 1 ?_;refine a6.ph 9 1 ?_;refine a6.at bI (fun a:List Int × List (List UInt8) × List Int=>a.1.length<=4/\a.2.2.length=a.1.length/\(∀w∈a.1,i64 w)/\(∀w∈a.2.2,i64 w)/\(∀s∈a.2.1,s∈rD)/\a.2.1.length=a.1.length)
       (fun a=>⟨[(0,.il 1 (aX l)),(2,.ptr 0 0 0),(3,.ptr 1 0 0),(4,.int .i64 n),(5,.int .i64 ns.length),(6,.int .i64 kk),(7,.ptr 3 0 0),(8,.int .i64 a.1.length)],[(0,.row 25 1 [.agg [.nsl]]),(1,.row 25 1 [.agg [.sl 2 0 ns.length]]),(2,.row 59 12 (a7 ns)),(3,.row 59 12 [.agg [.int .i64 2,.str [],.int .i64 0,.int .i64 0,.sl 4 0 a.1.length,.sl 6 0 a.1.length,.nsl,.sl 5 0 a.1.length,.int .i64 0,.int .i64 0,.str [],.nsl]]),(4,.row 3 1 (aX a.1)),(5,.row 3 1 (aX a.2.2)),(6,.row 9 1 (vX a.2.1))],7,181⟩)
       (fun a=>4-a.1.length) ([],[],[]) [(0,0),(1,1),(2,2),(3,3),(4,4),(5,5),(6,6)] (by simp)
       (aH _ rfl ⟨aI 0 cG,⟨1,_,rfl,rfl,.cons (.agg (.cons (.sl 2 2 0 _ rfl) .nil)) .nil⟩,aI 2 (aR _),⟨3,_,rfl,rfl,.cons (.agg (.s (.s (.s (.s (.cons (.nslk 4 4 _ rfl rfl) (.cons (.nslk 6 6 _ rfl rfl) (.s (.cons (.nslk 5 5 _ rfl rfl) (.s (.s (.s (.s .nil))))))))))))) .nil⟩,aI 4 .nil,aI 5 .nil,aI 6 .nil,trivial⟩ ⟨aG,aL,aL,aG,aG,aG,aL,aG,trivial⟩) ?_
      rintro⟨wl,ll,kl⟩ ⟨j1,j2,j3,j4,j5,j6⟩;simp only at j1 j2 j3 j4 j5 j6;refine Rr ?_;refine aE (fun h=>?_) (fun h=>?_)
      ·have hjc:wl.length<4:=by rw[hw8] at h;have:=gI q80 (show (0:Int)<4 by omega);simp at h;omega
       have hwj:IntKind.i64.wrap ((ns.length:Int)+(wl.length:Int))=(ns.length:Int)+wl.length:=fC ⟨om,om⟩;have hPj:=CB l ((ns.length:Int)+wl.length) 5 hl om;have hPb:=gR (l:=l) (i:=(ns.length:Int)+wl.length) (most:=5) om;generalize iL l ((ns.length:Int)+wl.length) 5=pw at hPj hPb;have hKj:=HN l ns.length wl.length hl om om om om;have hKb:=kH (l:=l) (i:=(ns.length:Int)) (j:=(wl.length:Int)) om;generalize lO l ns.length wl.length=kw at hKj hKb;refine Rr ?_;rw[hwj];refine hPj.go ?_;refine Rt ?_;refine aM (bO rfl rfl (by rw[aC]) (by simp;omega)) ?_;refine Rt ?_;refine hKj.go ?_;refine Rt ?_;refine aM (bO rfl rfl (by rw[aC,j2]) (by simp;omega)) ?_;refine Rt ?_;rw[hB];refine Rr ?_;obtain⟨qn,hqn,hqe⟩:∃qn:Nat,qn<4/\(IntKind.i64.wrap ((wl.length:Int)+IntKind.i64.wrap (kk.tdiv 96))).tmod 4=(qn:Int):=by
        have a0:=vA kk0 (show (0:Int)<96 by omega);have a1:0<=kk.tdiv 96:=N1 kk0 om;have e1:IntKind.i64.wrap (kk.tdiv 96)=kk.tdiv 96:=fC ⟨om,om⟩;have e2:IntKind.i64.wrap ((wl.length:Int)+kk.tdiv 96)=(wl.length:Int)+kk.tdiv 96:=fC ⟨om,om⟩;rw[e1,e2];have:=gI (show 0<=(wl.length:Int)+kk.tdiv 96 by omega) (show (0:Int)<4 by omega);exact⟨(((wl.length:Int)+kk.tdiv 96).tmod 4).toNat,om,om⟩
       obtain⟨sa,hsa,hsm⟩:∃sa,([AV.str [97],AV.str [98],AV.str [99],AV.str [100]])[0+((qn:Nat):Int).toNat]? = some (.str sa)/\sa∈rD:=by
        rcases(show qn=0∨qn=1∨qn=2∨qn=3 by omega) with rfl|rfl|rfl|rfl
        ·exact⟨[97],rfl,by simp[rD]⟩
        ·exact⟨[98],rfl,by simp[rD]⟩
        ·exact⟨[99],rfl,by simp[rD]⟩
        ·exact⟨[100],rfl,by simp[rD]⟩
       have bsa:Nat.blt ((qn:Nat):Int).toNat 4=true:=Ml (by simp;omega);rw[hqe];refine Rr ?_;repeat((first|refine bW ?_|refine aM bsa ?_|refine aD hsa ?_);refine Rr ?_)
       refine aM (bO rfl rfl (by rw[bA,j6]) (by simp;omega)) ?_;refine Rr ?_;repeat((first|refine bW ?_|refine aM bsa ?_|refine aD hsa ?_);refine Rr ?_)
       exact .mk (wl++[IntKind.i64.wrap (1+pw)],ll++[sa],kl++[kw]) [(0,0),(1,1),(2,2),(3,3),(19,4),(30,5),(45,6)] ⟨by simp;omega,by simp;omega,l9 j3 (GF _),l9 j4 ⟨om,om⟩,l9 j5 hsm,by simp;omega⟩
        (aH _ rfl ⟨aI 0 cG,⟨1,_,rfl,rfl,.cons (.agg (.cons (.sl 2 2 0 _ rfl) .nil)) .nil⟩,aI 2 (aR _),⟨3,_,rfl,rfl,.cons (.agg (.s (.s (.s (.s (.cons (.slE rfl (by simp)) (.cons (.slE rfl (by simp)) (.s (.cons (.slE rfl (by simp)) (.s (.s (.s (.s .nil))))))))))))) .nil⟩,⟨19,_,rfl,rfl,.eq (aS _) (by simp[aX])⟩,⟨30,_,rfl,rfl,.eq (aS _) (by simp[aX])⟩,⟨45,_,rfl,rfl,.eq (vL _) (by simp[vX])⟩,trivial⟩ ⟨aG,aL,aL,aG,aG,aG,aL,⟨_,rfl,.w64 (by simp) ⟨by simp;omega,by simp;omega⟩⟩,trivial⟩) (by simp;omega)
      ·refine Rr ?_;exact hQ ⟨2,[],0,0,wl,ll,[],kl,zV⟩ _ [(0,0),(1,1),(2,2),(3,3)] (j9 ⟨om,om⟩ (by simp) z0 z0 om j3 om j5 (by simp) (by simp) om j4 (fX z0 z0) (by simp[zV,aU,bR])) (aH _ rfl ⟨aI 0 cG,⟨1,_,rfl,rfl,.cons (.agg (.cons (.sl 2 2 0 _ rfl) .nil)) .nil⟩,aI 2 (aR _),⟨3,_,rfl,rfl,.cons (.agg (.s (.s (.s (.s (.cons (.fz' (id:=4) rfl rfl (by rw[aC];first|omega|(simp only;omega)) (by rw[NQ];exact M7 (by rw[aC];first|omega|(simp only;omega))) (aS _)) (.cons (.fz' (id:=6) rfl rfl (by rw[bA];first|omega|(simp only;omega)) (by rw[NQ];exact M7 (by rw[bA];first|omega|(simp only;omega))) (vL _)) (.cons (.nil 4) (.cons (.fz' (id:=5) rfl rfl (by rw[aC];first|omega|(simp only;omega)) (by rw[NQ];exact M7 (by rw[aC];first|omega|(simp only;omega))) (aS _)) (.s (.s (.s (.cons (.nil 4) .nil))))))))))))) .nil⟩,trivial⟩ ⟨aG,aL,aL,aG,aG,aG,aL,trivial⟩)
     ·have hB:decide ((IntKind.i64.wrap (kk.tdiv 32)).tmod 3>0)=false:=hB;refine a6.ph 3 1 ?_;refine a6.ph 3 1 ?_;refine a6.at bI (fun a:List Int × List (List UInt8) × List Int=>a.1.length<=4/\a.2.2.length=a.1.length/\(∀w∈a.1,i64 w)/\(∀w∈a.2.2,i64 w)/\(∀s∈a.2.1,s∈rD)/\a.2.1.length=0)
       (fun a=>⟨[(0,.il 1 (aX l)),(2,.ptr 0 0 0),(3,.ptr 1 0 0),(4,.int .i64 n),(5,.int .i64 ns.length),(6,.int .i64 kk),(7,.ptr 3 0 0),(8,.int .i64 a.1.length)],[(0,.row 25 1 [.agg [.nsl]]),(1,.row 25 1 [.agg [.sl 2 0 ns.length]]),(2,.row 59 12 (a7 ns)),(3,.row 59 12 [.agg [.int .i64 2,.str [],.int .i64 0,.int .i64 0,.sl 4 0 a.1.length,.nsl,.nsl,.sl 5 0 a.1.length,.int .i64 0,.int .i64 0,.str [],.nsl]]),(4,.row 3 1 (aX a.1)),(5,.row 3 1 (aX a.2.2))],6,181⟩)
       (fun a=>4-a.1.length) ([],[],[]) [(0,0),(1,1),(2,2),(3,3),(4,4),(5,5)] (by simp)
       (aH _ rfl ⟨aI 0 cG,⟨1,_,rfl,rfl,.cons (.agg (.cons (.sl 2 2 0 _ rfl) .nil)) .nil⟩,aI 2 (aR _),⟨3,_,rfl,rfl,.cons (.agg (.s (.s (.s (.s (.cons (.nslk 4 4 _ rfl rfl) (.s (.s (.cons (.nslk 5 5 _ rfl rfl) (.s (.s (.s (.s .nil))))))))))))) .nil⟩,aI 4 .nil,aI 5 .nil,trivial⟩ ⟨aG,aL,aL,aG,aG,aG,aL,aG,trivial⟩) ?_
      rintro⟨wl,ll,kl⟩ ⟨j1,j2,j3,j4,j5,j6⟩;simp only at j1 j2 j3 j4 j5 j6;refine Rr ?_;refine aE (fun h=>?_) (fun h=>?_)
      ·have hjc:wl.length<4:=by rw[hw8] at h;have:=gI q80 (show (0:Int)<4 by omega);simp at h;omega
       have hwj:IntKind.i64.wrap ((ns.length:Int)+(wl.length:Int))=(ns.length:Int)+wl.length:=fC ⟨om,om⟩;have hPj:=CB l ((ns.length:Int)+wl.length) 5 hl om;have hPb:=gR (l:=l) (i:=(ns.length:Int)+wl.length) (most:=5) om;generalize iL l ((ns.length:Int)+wl.length) 5=pw at hPj hPb;have hKj:=HN l ns.length wl.length hl om om om om;have hKb:=kH (l:=l) (i:=(ns.length:Int)) (j:=(wl.length:Int)) om;generalize lO l ns.length wl.length=kw at hKj hKb;refine Rr ?_;rw[hwj];refine hPj.go ?_;refine Rt ?_;refine aM (bO rfl rfl (by rw[aC]) (by simp;omega)) ?_;refine Rt ?_;refine hKj.go ?_;refine Rt ?_;refine aM (bO rfl rfl (by rw[aC,j2]) (by simp;omega)) ?_;refine Rt ?_;rw[hB];refine Rr ?_;exact .mk (wl++[IntKind.i64.wrap (1+pw)],ll,kl++[kw]) [(0,0),(1,1),(2,2),(3,3),(18,4),(29,5)] ⟨by simp;omega,by simp;omega,l9 j3 (GF _),l9 j4 ⟨om,om⟩,j5,j6⟩
        (aH _ rfl ⟨aI 0 cG,⟨1,_,rfl,rfl,.cons (.agg (.cons (.sl 2 2 0 _ rfl) .nil)) .nil⟩,aI 2 (aR _),⟨3,_,rfl,rfl,.cons (.agg (.s (.s (.s (.s (.cons (.slE rfl (by simp)) (.s (.s (.cons (.slE rfl (by simp)) (.s (.s (.s (.s .nil))))))))))))) .nil⟩,⟨18,_,rfl,rfl,.eq (aS _) (by simp[aX])⟩,⟨29,_,rfl,rfl,.eq (aS _) (by simp[aX])⟩,trivial⟩ ⟨aG,aL,aL,aG,aG,aG,aL,⟨_,rfl,.w64 (by simp) ⟨by simp;omega,by simp;omega⟩⟩,trivial⟩) (by simp;omega)
      ·refine Rr ?_;obtain rfl:ll=[]:=Nb.1 j6;exact hQ ⟨2,[],0,0,wl,[],[],kl,zV⟩ _ [(0,0),(1,1),(2,2),(3,3)] (j9 ⟨om,om⟩ (by simp) z0 z0 om j3 (by simp) (by simp) (by simp) (by simp) om j4 (fX z0 z0) (by simp[zV,aU,bR])) (aH _ rfl ⟨aI 0 cG,⟨1,_,rfl,rfl,.cons (.agg (.cons (.sl 2 2 0 _ rfl) .nil)) .nil⟩,aI 2 (aR _),⟨3,_,rfl,rfl,.cons (.agg (.s (.s (.s (.s (.cons (.fz' (id:=4) rfl rfl (by rw[aC];first|omega|(simp only;omega)) (by rw[NQ];exact M7 (by rw[aC];first|omega|(simp only;omega))) (aS _)) (.cons (.nil 1) (.cons (.nil 4) (.cons (.fz' (id:=5) rfl rfl (by rw[aC];first|omega|(simp only;omega)) (by rw[NQ];exact M7 (by rw[aC];first|omega|(simp only;omega))) (aS _)) (.s (.s (.s (.cons (.nil 4) .nil))))))))))))) .nil⟩,trivial⟩ ⟨aG,aL,aL,aG,aG,aG,aL,trivial⟩)
    ·obtain⟨qn,hqn,hqe⟩:∃qn:Nat,qn<3/\(IntKind.i64.wrap (kk.tdiv 8)).tmod 3=(qn:Int):=by
      rw[hw8];have:=gI q80 (show (0:Int)<3 by omega);exact⟨((kk.tdiv 8).tmod 3).toNat,om,om⟩
     obtain⟨nm,hnm,hnl⟩:∃nm,([AV.str [],AV.str [80,97,105,114],AV.str []])[0+((qn:Nat):Int).toNat]? = some (.str nm)/\nm.length<=4:=by
      rcases(show qn=0∨qn=1∨qn=2 by omega) with rfl|rfl|rfl
      ·exact⟨[],rfl,by simp⟩
      ·exact⟨[80,97,105,114],rfl,by simp⟩
      ·exact⟨[],rfl,by simp⟩
     have bnm:Nat.blt ((qn:Nat):Int).toNat 3=true:=Ml (by simp;omega);refine Rr ?_;rw[hqe];refine Rr ?_;repeat((first|refine bW ?_|refine aM bnm ?_|refine aD hnm ?_);refine Rr ?_)
     refine a6.ph 3 1 ?_;refine a6.at bI (fun a:List Int=>a.length<=3/\∀w∈a,i64 w)
      (fun a=>⟨[(0,.il 1 (aX l)),(2,.ptr 0 0 0),(3,.ptr 1 0 0),(4,.int .i64 n),(5,.int .i64 ns.length),(6,.int .i64 kk),(7,.ptr 3 0 0),(9,.int .i64 a.length)],[(0,.row 25 1 [.agg [.nsl]]),(1,.row 25 1 [.agg [.sl 2 0 ns.length]]),(2,.row 59 12 (a7 ns)),(3,.row 59 12 [.agg [.int .i64 3,.str nm,.int .i64 0,.int .i64 0,.nsl,.nsl,.nsl,.sl 4 0 a.length,.int .i64 0,.int .i64 0,.str [],.nsl]]),(4,.row 3 1 (aX a))],5,181⟩)
      (fun a=>4-a.length) [] [(0,0),(1,1),(2,2),(3,3),(5,4)] (by simp)
      (aH _ rfl ⟨aI 0 cG,⟨1,_,rfl,rfl,.cons (.agg (.cons (.sl 2 2 0 _ rfl) .nil)) .nil⟩,aI 2 (aR _),⟨3,_,rfl,rfl,.cons (.agg (.s (.s (.s (.s (.s (.s (.s (.cons (.nslk 5 4 _ rfl rfl) (.s (.s (.s (.s .nil))))))))))))) .nil⟩,aI 5 .nil,trivial⟩ ⟨aG,aL,aL,aG,aG,aG,aL,aG,trivial⟩) ?_
     rintro kl ⟨j1,j4⟩;refine Rr ?_;refine aE (fun h=>?_) (fun h=>?_)
     ·have hjc:kl.length<3:=by
       have a0:=vA kk0 (show (0:Int)<24 by omega);have a1:0<=kk.tdiv 24:=N1 kk0 om;have e1:IntKind.i64.wrap (kk.tdiv 24)=kk.tdiv 24:=fC ⟨om,om⟩;rw[e1] at h;have:=gI a1 (show (0:Int)<4 by omega);simp at h;omega
      have hKj:=HN l ns.length kl.length hl om om om om;have hKb:=kH (l:=l) (i:=(ns.length:Int)) (j:=(kl.length:Int)) om;generalize lO l ns.length kl.length=kw at hKj hKb;refine Rr ?_;refine hKj.go ?_;refine Rt ?_;refine aM (bO rfl rfl (by rw[aC]) (by simp;omega)) ?_;refine Rt ?_;exact .mk (kl++[kw]) [(0,0),(1,1),(2,2),(3,3),(15,4)] ⟨by simp;omega,l9 j4 ⟨om,om⟩⟩
       (aH _ rfl ⟨aI 0 cG,⟨1,_,rfl,rfl,.cons (.agg (.cons (.sl 2 2 0 _ rfl) .nil)) .nil⟩,aI 2 (aR _),⟨3,_,rfl,rfl,.cons (.agg (.s (.s (.s (.s (.s (.s (.s (.cons (.slE rfl (by simp)) (.s (.s (.s (.s .nil))))))))))))) .nil⟩,⟨15,_,rfl,rfl,.eq (aS _) (by simp[aX])⟩,trivial⟩ ⟨aG,aL,aL,aG,aG,aG,aL,⟨_,rfl,.w64 (by simp) ⟨by simp;omega,by simp;omega⟩⟩,trivial⟩) (by simp;omega)
     ·refine Rr ?_;exact hQ ⟨3,nm,0,0,[],[],[],kl,zV⟩ _ [(0,0),(1,1),(2,2),(3,3)] (j9 ⟨om,om⟩ om z0 z0 (by simp) (by simp) (by simp) (by simp) (by simp) (by simp) om j4 (fX z0 z0) (by simp[zV,aU,bR])) (aH _ rfl ⟨aI 0 cG,⟨1,_,rfl,rfl,.cons (.agg (.cons (.sl 2 2 0 _ rfl) .nil)) .nil⟩,aI 2 (aR _),⟨3,_,rfl,rfl,.cons (.agg (.s (.s (.s (.s (.cons (.nil 1) (.cons (.nil 1) (.cons (.nil 4) (.cons (.fz' (id:=4) rfl rfl (by rw[aC];first|omega|(simp only;omega)) (by rw[NQ];exact M7 (by rw[aC];first|omega|(simp only;omega))) (aS _)) (.s (.s (.s (.cons (.nil 4) .nil))))))))))))) .nil⟩,trivial⟩ ⟨aG,aL,aL,aG,aG,aG,aL,trivial⟩)
    ·have hBd:=Ld ns l kk hl om om kk0 om hT.good;have hBg:=Fg hT om om (l:=l) (k:=kk) kk0;have hns:ns.length<=14:=om;generalize uN ns l ns.length kk=bx at hBd hBg;have hbn:=aQ bx;refine Rr ?_;refine aF.use1 bI hBd 2 rfl (aR _) (.cons (.agg' (.cons (.sl 2 0 0 _ rfl) .nil)) (.s (.s (.s .nil)))) ?_;rintro r m k' ⟨rfl,rfl⟩;refine⟨_,rfl,hbn,aR _, ?_⟩;obtain⟨kind,name,lo,hi,ws,ls,vals,kids,⟨vk,vn,vs,vks⟩⟩:=bx;refine Rr ?_;exact hQ ⟨kind,name,lo,hi,ws,ls,vals,kids,.mk vk vn vs vks⟩ _ [(0,0),(1,1),(2,2),(3,3)] hBg (aH _ rfl ⟨aI 0 cG,⟨1,_,rfl,rfl,.cons (.agg (.cons (.sl 2 2 0 _ rfl) .nil)) .nil⟩,aI 2 (aR _),aI 3 (.cons (aQ ⟨kind,name,lo,hi,ws,ls,vals,kids,.mk vk vn vs vks⟩) .nil),trivial⟩ ⟨aG,aL,aL,aG,aG,aG,aL,trivial⟩)
   ·have hxn:=aQ x;have hV:=J8 (ns++[x]) (by simp;omega) (fun y hy=>by
     rcases Mv.1 hy with hy|hy
     ·have:=hT.gen y hy;exact⟨this.ok,by have:=this.vals;omega⟩
     ·simp at hy;rw[hy];exact⟨hx.ok,by have:=hx.vals;omega⟩)
    have hnn2:=aR (ns++[x]);have eTk:List.take ns.length (List.drop 0 (a7 ns))=a7 ns:=by rw[NQ];exact M7 (by rw[cE];omega)
    have hxs:a7 (ns++[x])=a7 ns++[bN x]:=by simp[a7]
    have hsn:=fun h=>hT.snoc (x:=x) om hx h
    have hw5:=gI kk0 (show (0:Int)<5 by omega);have hlf:=hT.leaf (m:=kk.tmod 5) ⟨om,om⟩;obtain⟨e,he⟩:∃e,e=bD (ns++[x]):=⟨_,rfl⟩
    rw[←he] at hV hsn;obtain⟨kind,name,lo,hi,ws,ls,vals,kids,⟨vk,vn,vs,vks⟩⟩:=x;refine Rr ?_;refine aM (Gl (by rw[cE];omega)) ?_;rw[eTk];refine Rr ?_;refine aM (sJ rfl (by rw[cE];omega)) ?_;refine Rr ?_;refine aM (bO rfl rfl rfl (by rw[cE];simp;omega)) ?_;refine Rr ?_;refine aF.useN bI [(7,0)] hV rfl (.cons (.agg' (.cons (.slE rfl (by rw[cE];simp)) .nil)) .nil) ⟨⟨7,_,rfl,rfl,.eq hnn2 (by rw[hxs];rfl)⟩,trivial⟩ rfl ?_;rintro r m k' ⟨rfl,rfl⟩;refine⟨[(0,7)],_,[(7,.row 59 12 (a7 (ns++[⟨kind,name,lo,hi,ws,ls,vals,kids,.mk vk vn vs vks⟩])))],8,.same _ nn,⟨aI 0 hnn2,trivial⟩,rfl, ?_⟩;by_cases e0:e=0
    ·subst e0;refine Rr ?_;exact .mk (ns++[⟨kind,name,lo,hi,ws,ls,vals,kids,.mk vk vn vs vks⟩]) [(0,0),(1,1),(7,2)] ⟨hsn rfl,by simp;omega⟩
      (aH _ rfl ⟨aI 0 cG,⟨1,_,rfl,rfl,.cons (.agg (.cons (.slE rfl (by rw[cE];simp)) .nil)) .nil⟩,aI 7 hnn2,trivial⟩ ⟨aG,aL,aL,aG,⟨_,rfl,.w64 (by simp) ⟨by simp;omega,by simp;omega⟩⟩,trivial⟩) (by simp;omega)
    ·have de:(e == 0)=false:=by simpa using e0
     refine Rr ?_;rw[de];refine Rr ?_;refine aM (bO rfl rfl (by rw[cE]) (by simp;omega)) ?_;refine Rr ?_;have hlx:a7 (ns++[⟨0,[],0,0,[],[],[],[],.mk 0 (kk.tmod 5) [] []⟩])=a7 ns++[bN ⟨0,[],0,0,[],[],[],[],.mk 0 (kk.tmod 5) [] []⟩]:=by simp[a7]
     exact .mk (ns++[⟨0,[],0,0,[],[],[],[],.mk 0 (kk.tmod 5) [] []⟩]) [(0,0),(1,1),(9,2)] ⟨hlf,by simp;omega⟩
      (aH _ rfl ⟨aI 0 cG,⟨1,_,rfl,rfl,.cons (.agg (.cons (.slE rfl (by simp)) .nil)) .nil⟩,⟨9,_,rfl,rfl,by rw[hlx];exact .snoc rfl (.same (aR _)) (.agg (.s (.s (.s (.s (.cons (.nil 1) (.cons (.nil 1) (.cons (.nil 4) (.cons (.nil 1) (.s (.s (.s (.cons (.nil 4) .nil)))))))))))))⟩,trivial⟩ ⟨aG,aL,aL,aG,⟨_,rfl,.w64 (by simp) ⟨by simp;omega,by simp;omega⟩⟩,trivial⟩) (by simp;omega)
 ·have hlt:ns.length=n:=by simp at h;omega
  refine Rr ?_;exact cA (r':=.agg [.sl 0 0 ns.length]) (m':=tM ns) (n':=1) [(2,0)] rfl ⟨aI 2 (aR _),trivial⟩ (.agg' (.cons (.sl 2 0 0 _ rfl) .nil)) ⟨ns,hT,om,rfl,rfl,rfl⟩
end Go.Proofs.YtpajadlnaokngaaGreatDoor
namespace Go.Ax
open Go
def K2(p s:List UInt8):Option (List UInt8):=if p.isPrefixOf s then some (s.drop p.length) else none
structure LK(x:Nd):Prop where
 ok:oH x
 rng:x.lo<=x.hi/\-4611686018427387904<=x.lo/\x.hi<=4611686018427387904/\x.hi<x.lo+1099511627776
 klen:x.kids.length<=2000
 kl2:x.kind=2->x.kids.length<=1000
 ch:x.kind=2->1<=x.kids.length/\(x.labels.length=0∨x.labels.length=x.kids.length)
theorem rK(ns:List Nd)(h:bM [] ns=0):∀(j:Nat) (x:Nd),ns[j]? = some x->d8 j x=0:=by
 refine eQ (P:=fun ns=>bM [] ns=0->∀(j:Nat) (x:Nd),ns[j]? = some x->d8 j x=0) (fun _ j x hx=>by simp at hx) (fun l x ih h=>?_) ns h;have h1:=fV h;have ih:=ih h1;have hs:=eG [] l x h1;rw[h] at hs;simp only[NM] at hs;obtain⟨hg,-,-,-⟩:=eJ hs.symm;intro j y hy;rcases Mq j l.length with hj|hj
 ·rw[M6 hj] at hy;exact ih j y hy
 ·rw[NC hj] at hy;have e:j-l.length=0:=by
   have:=(Mi.1 hy).1;simp at this;omega
  rw[e] at hy;simp at hy;subst hy;rw[show j=l.length by omega];exact hg
structure Mb(LB:List (List UInt8))(x:Nd):Prop where
 opt:LK x
 lab:∀s∈x.labels,s∈LB
 ll:x.labels.length<=1000
end Go.Ax
