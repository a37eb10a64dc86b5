/- A part of the proof. -/
import Derived.Test.YtidjhgajglebnaaGreatDoorAx15
import Derived.Test.YtidjhgajglebnaaGreatDoorProg
import Derived.KernelRfl
set_option linter.unusedVariables false
set_option linter.unusedSimpArgs false
namespace Go.Proofs.YtidjhgajglebnaaGreatDoor
open Go Go.Ax Go.Proofs Tryz
set_option maxRecDepth 100000
set_option maxHeartbeats 8000000
theorem Iy(l m:List aT)(hl:l.length<=4294967296)(hok:∀a∈l,g5 a):aZ prog [] 74 [.il 4 (aS l),.il 4 (aS m)] (.bool (cL l m)):=by
 refine aG bB func74 rfl ?_;refine Rr ?_;refine aD (fun h=>?_) (fun h=>?_)
 ·refine Rr ?_;refine aA nn ⟨?_,rfl,rfl⟩;rw[aB,aB] at h;rw[Cx (by simp at h;omega)]
 have hlen:l.length=m.length:=by rw[aB,aB] at h;simp at h;omega
 refine Rr ?_;refine bA.at bB (fun k:Nat=>k<=l.length/\cL l m=cL (l.drop k) (m.drop k))
  (fun k=>⟨[(0,.il 4 (aS l)),(1,.il 4 (aS m)),(5,.int .i64 k)],[],0,27⟩) (fun k=>l.length-k) 0 [] ⟨by simp,by simp⟩
  (bV ⟨aJ,aJ,aJ,trivial⟩) ?_
 rintro k ⟨hk,hs⟩;refine Rr ?_;refine aD (fun h=>?_) (fun h=>?_)
 ·have hlt:k<l.length:=GE h;obtain⟨p1,p2,p3,p4,pm,pg,pe,ep⟩:=bZ (l:=l) (k:=k) hlt;obtain⟨q1,q2,q3,q4,qm,qg,qe,eq⟩:=bZ (l:=m) (k:=k) (by omega);have hc:=xU (.mk p1 p2 p3 p4) (.mk q1 q2 q3 q4) (hok _ pm);rw[UU hlt,UU (show k<m.length by omega),pe,qe,cL] at hs;generalize bR (.mk p1 p2 p3 p4) (.mk q1 q2 q3 q4)=c at hc hs;refine Rr ?_;repeat((first|refine aC ep ?_|refine aC eq ?_|refine bH ?_);refine Rr ?_)
  refine hc.go ?_;refine Rr ?_;repeat((first|refine aC ep ?_|refine aC eq ?_|refine bH ?_);refine Rr ?_)
  refine aD (fun h=>?_) (fun h=>?_)
  ·refine Rr ?_;refine aA nn ⟨?_,rfl,rfl⟩;rw[hs,UO (by simpa using h)];rfl
  ·refine Rr ?_;refine .mk (k+1) [] ⟨by omega, ?_⟩ (bV ⟨aJ,aJ,⟨_,rfl,.wo⟩,trivial⟩) (by omega);rw[hs,UD (by simpa using h),V9]
 ·have hge:l.length<=k:=G5 h;refine Rr ?_;refine aA nn ⟨?_,rfl,rfl⟩;rw[hs,U1 (by omega),U1 (by omega),cL]
theorem Rf(x:Nd)(ks:List aT):aZ prog [] 155 [cN x,.il 4 (aS ks)] (cK (dO x.name ks)):=by
 obtain⟨kind,name,lo,hi,ws,ls,vals,kids,⟨vk,vn,vs,vks⟩⟩:=x;refine aG bB func155 rfl ?_;refine Rr ?_;refine aD (fun h=>?_) (fun h=>?_)
 ·have h:name=[]:=by simpa using h
  refine Rr ?_;exact gL (r':=cK (.mk 2 0 [] ks)) (.same _ nn) ⟨by rw[dO,T7 h],rfl,rfl⟩
 ·have h:¬name=[]:=by simpa using h
  refine Rr ?_;exact gL (r':=cK (.mk 3 0 name ks)) (.same _ nn) ⟨by rw[dO,T5 h],rfl,rfl⟩
theorem SO(i:Nat)(x:Nd)(hi:i<=4294967296)(hx:rJ x)(hvl:x.values.length<=4294967290):aZ prog [] 31 [.int .i64 i,cN x] (.int .i64 (fF i x)):=by
 have h1:=KM i x hi hx;have h2:=MS x hx;have hval:∀a∈nL x,aZ prog [] 71 [cK a] (.int .i64 (bS a)):=by
  intro a ha;have key:g5 a/\aY a<=4294967296:=by
   unfold nL at ha;rcases UI.1 ha with h|h
   ·split at h
    ·simp at h;rw[h];exact⟨hx.value,hx.valueS⟩
    ·cases h
   ·exact hx.valuesI a h
  exact Qd a key.1 (by omega)
 have hres:fF i x=if c7 i x=false then 1 else if dS (nL x)≠0 then dS (nL x) else if dG x=false then 5 else 0:=rfl
 generalize fF i x=res at hres;generalize c7 i x=fb at h1 hres;generalize dG x=nb at h2 hres;clear hx;obtain⟨kind,name,lo,hi,ws,ls,vals,kids,⟨vk,vn,vs,vks⟩⟩:=x;simp only at hvl;have hown:nL ⟨kind,name,lo,hi,ws,ls,vals,kids,.mk vk vn vs vks⟩=(if kind=0 then [aT.mk vk vn vs vks] else [])++vals:=rfl;generalize nL ⟨kind,name,lo,hi,ws,ls,vals,kids,.mk vk vn vs vks⟩=own at hval hres hown;have hol:own.length<=4294967291:=by rw[hown];split<;>simp<;>omega
 refine aG bB func31 rfl ?_;refine Rr ?_;refine h1.go ?_ (.cons (.int _ _) (.cons (aW _) .nil));cases fb with
 | false=>
  refine Rr ?_;refine aA nn ⟨?_,rfl,rfl⟩;rw[hres,T7 rfl]
 | true=>
  refine Rr ?_;refine aD (fun h=>?_) (fun h=>?_)
  case' refine_1=>
   have hk:kind=0:=by simpa using h
   rw[T7 hk] at hown;refine Rr ?_;refine aM (bT rfl rfl (by simp) (by simp[aB];omega)) ?_;refine Rr ?_;refine bA.at bB (fun k:Nat=>k<=own.length/\dS own=dS (own.drop k))
    (fun k=>⟨[(3,.ptr 0 0 0),(6,.sl 1 0 own.length),(7,.int .i64 k)],[(0,.row 57 12 [cN ⟨kind,name,lo,hi,ws,ls,vals,kids,.mk vk vn vs vks⟩]),(1,.row 55 4 (aS own))],2,45⟩) (fun k=>own.length-k) 0 [(0,0),(3,1)] ⟨by simp,by simp⟩
    (aF _ rfl ⟨aK 0 (.cons (aW _) .nil),⟨3,_,rfl,rfl,.eq cZ (by rw[hown];rfl)⟩,trivial⟩ ⟨aI,⟨_,rfl,.slE rfl (by rw[hown];simp[aB];omega)⟩,aJ,trivial⟩) ?_
  case' refine_2=>
   have hk:¬kind=0:=by simpa using h
   rw[T5 hk] at hown;refine Rr ?_;refine aM (A9 rfl (by simp[aB];omega)) ?_;refine Rr ?_;refine bA.at bB (fun k:Nat=>k<=own.length/\dS own=dS (own.drop k))
    (fun k=>⟨[(3,.ptr 0 0 0),(6,.sl 1 0 own.length),(7,.int .i64 k)],[(0,.row 57 12 [cN ⟨kind,name,lo,hi,ws,ls,vals,kids,.mk vk vn vs vks⟩]),(1,.row 55 4 (aS own))],2,45⟩) (fun k=>own.length-k) 0 [(0,0),(1,1)] ⟨by simp,by simp⟩
    (aF _ rfl ⟨aK 0 (.cons (aW _) .nil),⟨1,_,rfl,rfl,.eq cZ (by rw[hown];rfl)⟩,trivial⟩ ⟨aI,⟨_,rfl,.slE rfl (by rw[hown];simp[aB])⟩,aJ,trivial⟩) ?_
  all_goals
   clear h hown hk;rintro k ⟨hk,hf⟩;refine Rr ?_;refine aD (fun h=>?_) (fun h=>?_)
   ·have hlt:k<own.length:=by simpa using h
    obtain⟨p1,p2,p3,p4,pm,pg,pe,ep,bp⟩:=OJ (l:=own) (k:=k) (n:=own.length) hlt rfl;have hv:=hval _ pm;rw[UU hlt,pe,dS] at hf;generalize bS (.mk p1 p2 p3 p4)=e at hv hf;refine Rr ?_;repeat((first|refine aM bp ?_|refine aC ep ?_);refine Rr ?_)
    refine hv.go ?_;refine Rr ?_;refine aD (fun h=>?_) (fun h=>?_)
    ·have h:e≠0:=by simpa using h
     refine Rr ?_;refine aA nn ⟨?_,rfl,rfl⟩;rw[T7 h] at hf;rw[hres,T5 (by simp),hf,T7 h]
    ·have h:¬e≠0:=by simpa using h
     rw[T5 h] at hf;refine Rr ?_;exact .mk (k+1) [(0,0),(1,1)] ⟨by omega,hf⟩ (aF _ rfl ⟨aK 0 (.cons (aW _) .nil),aK 1 cZ,trivial⟩ ⟨aI,⟨_,rfl,.sl 1 1 0 _ rfl⟩,⟨_,rfl,.wo⟩,trivial⟩) (by omega)
   ·have hge:own.length<=k:=by simpa using h
    rw[U1 hge,dS] at hf;refine Rr ?_;refine h2.go ?_ (.cons (aW _) .nil);cases nb with
    | false=>
     refine Rr ?_;refine aA nn ⟨?_,rfl,rfl⟩;rw[hres,T5 (by simp),hf,T5 (by simp),T7 rfl]
    | true=>
     refine Rr ?_;refine aA nn ⟨?_,rfl,rfl⟩;rw[hres,T5 (by simp),hf,T5 (by simp),T5 (by simp)]
set_option maxHeartbeats 8000000
theorem MY(bs:List Int)(x:Nd)(hx:rJ x)(hbl:bs.length<=1000000)(hb:∀y∈bs,0<=y/\y<=1024)(hk:∀(j:Nat) (k:Int),x.kids[j]? = some k->0<=k/\k<bs.length)(h4:4<=x.kind->0<x.kids.length)(hkind:0<=x.kind/\x.kind<=4) :
  aE prog [] 32 [.sl 0 0 bs.length,cN x] [(0,.row 3 1 (bG bs))] 1 fun r m _=>∃(len:Nat) (ys:List AV),r = .sl 1 0 len/\m=[(1,.row 3 1 ys)]/\kH ys/\(len=bs.length+1/\ys=bG (bs++[gZ bs x])):=by
 have b1:=hx.kids;have b2:=hx.value;have b3:=hx.valueS;clear hx;have hat:=lH (b:=bs) (M:=1024) (by omega) hb;have hsum:=iP (b:=bs) (M:=1024) (by omega) hb;have hmost:=gN (b:=bs) (M:=1024) (by omega) hb;obtain⟨kind,name,lo,hi,ws,ls,vals,kids,⟨vk,vn,vs,vks⟩⟩:=x;simp only at b1 b2 b3 hk h4 hkind;have hfin:∀(v:Int) (m:aN) (n id:Nat) (e:Int),lk m id=some (.row 3 1 (bG bs++[.int .i64 e]))->1<=id->e=v->v=gZ bs ⟨kind,name,lo,hi,ws,ls,vals,kids,.mk vk vn vs vks⟩ ->
   oH 1 (fun r m _=>∃(len:Nat) (ys:List AV),r = .sl 1 0 len/\m=[(1,.row 3 1 ys)]/\kH ys/\(len=bs.length+1/\ys=bG (bs++[gZ bs ⟨kind,name,lo,hi,ws,ls,vals,kids,.mk vk vn vs vks⟩]))) (.sl id 0 (bs.length+1)) m n:=by
  intro v m n id e hid h1 he hv;refine bJ (n':=2) (m':=[(1,.row 3 1 (bG (bs++[v])))]) [(id,1)] ?_ ⟨⟨id,_,by simp[lk],hid,.eq (a8 _) (by rw[he];simp[bG])⟩,trivial⟩ (.sl id 1 0 _ (by simp[lk])) ⟨_,_,rfl,rfl,a8 _,rfl,by rw[hv]⟩;simp[rG,CZ,rF,vZ,uY]
 refine aG bB func32 rfl ?_;refine Rr ?_;refine bA.at bB (fun k:Nat=>k<=kids.length)
  (fun k=>⟨[(0,.sl 0 0 bs.length),(3,.ptr 1 0 0),(5,.int .i64 (0+Go.Ax.f8 bs (kids.take k))),(6,.int .i64 (cS bs (if kind=2 then kids.take k else(kids.take k).drop 1))),(7,.int .i64 k)],[(0,.row 3 1 (bG bs)),(1,.row 57 12 [cN ⟨kind,name,lo,hi,ws,ls,vals,kids,.mk vk vn vs vks⟩])],2,74⟩) (fun k=>kids.length-k) 0 [(0,0),(1,1)] (by simp)
  (aF _ rfl ⟨aK 0 cZ,aK 1 (.cons (aW _) .nil),trivial⟩ ⟨⟨_,rfl,.sl 0 0 0 _ rfl⟩,aI,⟨_,rfl,.int rfl⟩,⟨_,rfl,.int (by split<;>rfl)⟩,aJ,trivial⟩) ?_
 intro k hkl;have hs1:=hsum (kids.take k);have hlen:(kids.take k).length=k:=by simp;omega
 rw[hlen] at hs1;refine Rr ?_;refine aD (fun h=>?_) (fun h=>?_)
 ·have hlt:k<kids.length:=by rw[aH] at h;simpa using h
  have e1:(bG kids)[(k:Int).toNat]? = some (.int .i64 kids[k]):=by rw[T4,bL,Ty hlt];rfl
  have hg:kids[k]? = some kids[k]:=Ty hlt;have hst:=tS (b:=bs) hlt;have hmt:=pT (b:=bs) hlt;have hmd:=oD (b:=bs) hlt;generalize kids[k]=q at e1 hg hst hmt hmd;obtain⟨q1,q2⟩:=hk k q hg;have hq:=hat q;obtain⟨qn,rfl⟩:=UH q1;have hqn:qn<bs.length:=by omega
  have e2:(bG bs)[0+(qn:Int).toNat]? = some (.int .i64 (dV bs qn)):=by rw[UT,T4,bL,Ty hqn];simp[dV,hqn]
  have bq:Nat.blt (qn:Int).toNat bs.length=true:=T8 (by simp;omega);generalize dV bs qn=av at e2 hst hmt hmd hq;refine Rr ?_;repeat((first|refine aC e1 ?_|refine aM bq ?_|refine aC e2 ?_);refine Rr ?_)
  have hw:IntKind.i64.wrap (0+Go.Ax.f8 bs (kids.take k)+av)=0+Go.Ax.f8 bs (kids.take (k+1)):=w64 (by omega) ⟨by omega,by omega⟩;refine aD (fun h=>?_) (fun h=>?_)
  ·have h2:kind=2:=by simpa using h
   rw[h];refine Rr ?_;exact .mk (k+1) [(0,0),(1,1)] (by omega) (aF _ rfl ⟨aK 0 cZ,aK 1 (.cons (aW _) .nil),trivial⟩ ⟨⟨_,rfl,.sl 0 0 0 _ rfl⟩,aI,⟨_,rfl,.int hw⟩,⟨_,rfl,.int (by rw[T7 h2,T7 h2,hmt];simp;omega)⟩,⟨_,rfl,.wo⟩,trivial⟩) (by omega)
  ·have h2:¬kind=2:=by simpa using h
   rw[h];refine Rr ?_;refine aD (fun h=>?_) (fun h=>?_)
   ·have h3:0<k:=by simp at h;omega
    refine Rr ?_;exact .mk (k+1) [(0,0),(1,1)] (by omega) (aF _ rfl ⟨aK 0 cZ,aK 1 (.cons (aW _) .nil),trivial⟩ ⟨⟨_,rfl,.sl 0 0 0 _ rfl⟩,aI,⟨_,rfl,.int hw⟩,⟨_,rfl,.int (by rw[T5 h2,T5 h2,hmd h3];simp;omega)⟩,⟨_,rfl,.wo⟩,trivial⟩) (by omega)
   ·have h3:k=0:=by simp at h;omega
    refine Rr ?_;exact .mk (k+1) [(0,0),(1,1)] (by omega) (aF _ rfl ⟨aK 0 cZ,aK 1 (.cons (aW _) .nil),trivial⟩ ⟨⟨_,rfl,.sl 0 0 0 _ rfl⟩,aI,⟨_,rfl,.int hw⟩,⟨_,rfl,.int (by rw[T5 h2,T5 h2,h3];cases kids<;>simp)⟩,⟨_,rfl,.wo⟩,trivial⟩) (by omega)
 ·have hke:k=kids.length:=by rw[aH] at h;simp at h;omega
  rw[hke,UM] at *;have hm1:=hmost kids;have hm2:=hmost (kids.drop 1);have hs2:=hsum kids;clear hke h;rcases(show kind=0∨kind=1∨kind=2∨kind=3∨kind=4 by omega) with rfl|rfl|rfl|rfl|rfl
  ·refine Rr ?_;refine aM (bT rfl rfl (by rw[aH]) (by simp;omega)) ?_;refine Rr ?_;exact hfin 0 _ _ _ _ rfl (by decide) rfl rfl
  ·refine Rr ?_;refine aM (bT rfl rfl (by rw[aH]) (by simp;omega)) ?_;refine Rr ?_;exact hfin 1 _ _ _ _ rfl (by decide) rfl rfl
  ·rw[T7 rfl] at *;refine Rr ?_;refine aM (bT rfl rfl (by rw[aH]) (by simp;omega)) ?_;refine Rr ?_;exact hfin (1+cS bs kids) _ _ _ _ rfl (by decide) (w64 rfl ⟨by omega,by omega⟩) rfl
  ·refine Rr ?_;refine aM (bT rfl rfl (by rw[aH]) (by simp;omega)) ?_;refine Rr ?_;exact hfin (Go.Ax.f8 bs kids) _ _ _ _ rfl (by decide) (by omega) rfl
  ·rw[T5 (by omega)] at *;have hpos:0<kids.length:=h4 (by omega);have e1:(bG kids)[(0:Int).toNat]? = some (.int .i64 (kids.getD 0 0)):=by rw[show (0:Int).toNat=0 from rfl,bL,Ty hpos];simp[hpos]
   obtain⟨q1,q2⟩:=hk 0 (kids.getD 0 0) (by simp[hpos]);have hval:gZ bs ⟨4,name,lo,hi,ws,ls,vals,kids,.mk vk vn vs vks⟩=dV bs (kids.getD 0 0)+cS bs (kids.drop 1):=rfl;generalize kids.getD 0 0=q at e1 q1 q2 hval;have hq:=hat q;obtain⟨qn,rfl⟩:=UH q1;have hqn:qn<bs.length:=by omega
   have e2:(bG bs)[0+(qn:Int).toNat]? = some (.int .i64 (dV bs qn)):=by rw[UT,T4,bL,Ty hqn];simp[dV,hqn]
   have bq:Nat.blt (qn:Int).toNat bs.length=true:=T8 (by simp;omega);generalize dV bs qn=av at e2 hval hq;refine Rr ?_;repeat((first|refine aC e1 ?_|refine aM bq ?_|refine aC e2 ?_);refine Rr ?_)
   refine aM (bT rfl rfl (by rw[aH]) (by simp;omega)) ?_;refine Rr ?_;exact hfin (av+cS bs (kids.drop 1)) _ _ _ _ rfl (by decide) (w64 rfl ⟨by omega,by omega⟩) hval.symm
theorem QQ(bs:List Int)(x:Nd)(hx:rJ x)(hbl:bs.length<=1000000)(hb:∀y∈bs,0<=y/\y<=1024)(hk:∀(j:Nat) (k:Int),x.kids[j]? = some k->0<=k/\k<bs.length)(h4:4<=x.kind->0<x.kids.length)(hkind:0<=x.kind/\x.kind<=4) :
  aE prog [] 33 [.sl 0 0 bs.length,cN x] [(0,.row 3 1 (bG bs))] 1 fun r m _=>∃(len:Nat) (ys:List AV),r = .sl 1 0 len/\m=[(1,.row 3 1 ys)]/\kH ys/\(len=bs.length+1/\ys=bG (bs++[kY bs x])):=by
 have b1:=hx.kids;have b2:=hx.value;have b3:=hx.valueS;clear hx;have hat:=lH (b:=bs) (M:=1024) (by omega) hb;have hsum:=iP (b:=bs) (M:=1024) (by omega) hb;have hmost:=gN (b:=bs) (M:=1024) (by omega) hb;obtain⟨kind,name,lo,hi,ws,ls,vals,kids,⟨vk,vn,vs,vks⟩⟩:=x;simp only at b1 b2 b3 hk h4 hkind;have hfin:∀(v:Int) (m:aN) (n id:Nat) (e:Int),lk m id=some (.row 3 1 (bG bs++[.int .i64 e]))->1<=id->e=v->v=kY bs ⟨kind,name,lo,hi,ws,ls,vals,kids,.mk vk vn vs vks⟩ ->
   oH 1 (fun r m _=>∃(len:Nat) (ys:List AV),r = .sl 1 0 len/\m=[(1,.row 3 1 ys)]/\kH ys/\(len=bs.length+1/\ys=bG (bs++[kY bs ⟨kind,name,lo,hi,ws,ls,vals,kids,.mk vk vn vs vks⟩]))) (.sl id 0 (bs.length+1)) m n:=by
  intro v m n id e hid h1 he hv;refine bJ (n':=2) (m':=[(1,.row 3 1 (bG (bs++[v])))]) [(id,1)] ?_ ⟨⟨id,_,by simp[lk],hid,.eq (a8 _) (by rw[he];simp[bG])⟩,trivial⟩ (.sl id 1 0 _ (by simp[lk])) ⟨_,_,rfl,rfl,a8 _,rfl,by rw[hv]⟩;simp[rG,CZ,rF,vZ,uY]
 refine aG bB func33 rfl ?_;refine Rr ?_;refine bA.at bB (fun k:Nat=>k<=kids.length)
  (fun k=>⟨[(0,.sl 0 0 bs.length),(3,.ptr 1 0 0),(5,.int .i64 (1+Go.Ax.f8 bs (kids.take k))),(6,.int .i64 (cS bs (if kind=2 then kids.take k else(kids.take k).drop 1))),(7,.int .i64 k)],[(0,.row 3 1 (bG bs)),(1,.row 57 12 [cN ⟨kind,name,lo,hi,ws,ls,vals,kids,.mk vk vn vs vks⟩])],2,62⟩) (fun k=>kids.length-k) 0 [(0,0),(1,1)] (by simp)
  (aF _ rfl ⟨aK 0 cZ,aK 1 (.cons (aW _) .nil),trivial⟩ ⟨⟨_,rfl,.sl 0 0 0 _ rfl⟩,aI,⟨_,rfl,.int rfl⟩,⟨_,rfl,.int (by split<;>rfl)⟩,aJ,trivial⟩) ?_
 intro k hkl;have hs1:=hsum (kids.take k);have hlen:(kids.take k).length=k:=by simp;omega
 rw[hlen] at hs1;refine Rr ?_;refine aD (fun h=>?_) (fun h=>?_)
 ·have hlt:k<kids.length:=by rw[aH] at h;simpa using h
  have e1:(bG kids)[(k:Int).toNat]? = some (.int .i64 kids[k]):=by rw[T4,bL,Ty hlt];rfl
  have hg:kids[k]? = some kids[k]:=Ty hlt;have hst:=tS (b:=bs) hlt;have hmt:=pT (b:=bs) hlt;have hmd:=oD (b:=bs) hlt;generalize kids[k]=q at e1 hg hst hmt hmd;obtain⟨q1,q2⟩:=hk k q hg;have hq:=hat q;obtain⟨qn,rfl⟩:=UH q1;have hqn:qn<bs.length:=by omega
  have e2:(bG bs)[0+(qn:Int).toNat]? = some (.int .i64 (dV bs qn)):=by rw[UT,T4,bL,Ty hqn];simp[dV,hqn]
  have bq:Nat.blt (qn:Int).toNat bs.length=true:=T8 (by simp;omega);generalize dV bs qn=av at e2 hst hmt hmd hq;refine Rr ?_;repeat((first|refine aC e1 ?_|refine aM bq ?_|refine aC e2 ?_);refine Rr ?_)
  have hw:IntKind.i64.wrap (1+Go.Ax.f8 bs (kids.take k)+av)=1+Go.Ax.f8 bs (kids.take (k+1)):=w64 (by omega) ⟨by omega,by omega⟩;refine aD (fun h=>?_) (fun h=>?_)
  ·have h2:kind=2:=by simpa using h
   rw[h];refine Rr ?_;exact .mk (k+1) [(0,0),(1,1)] (by omega) (aF _ rfl ⟨aK 0 cZ,aK 1 (.cons (aW _) .nil),trivial⟩ ⟨⟨_,rfl,.sl 0 0 0 _ rfl⟩,aI,⟨_,rfl,.int hw⟩,⟨_,rfl,.int (by rw[T7 h2,T7 h2,hmt];simp;omega)⟩,⟨_,rfl,.wo⟩,trivial⟩) (by omega)
  ·have h2:¬kind=2:=by simpa using h
   rw[h];refine Rr ?_;refine aD (fun h=>?_) (fun h=>?_)
   ·have h3:0<k:=by simp at h;omega
    refine Rr ?_;exact .mk (k+1) [(0,0),(1,1)] (by omega) (aF _ rfl ⟨aK 0 cZ,aK 1 (.cons (aW _) .nil),trivial⟩ ⟨⟨_,rfl,.sl 0 0 0 _ rfl⟩,aI,⟨_,rfl,.int hw⟩,⟨_,rfl,.int (by rw[T5 h2,T5 h2,hmd h3];simp;omega)⟩,⟨_,rfl,.wo⟩,trivial⟩) (by omega)
   ·have h3:k=0:=by simp at h;omega
    refine Rr ?_;exact .mk (k+1) [(0,0),(1,1)] (by omega) (aF _ rfl ⟨aK 0 cZ,aK 1 (.cons (aW _) .nil),trivial⟩ ⟨⟨_,rfl,.sl 0 0 0 _ rfl⟩,aI,⟨_,rfl,.int hw⟩,⟨_,rfl,.int (by rw[T5 h2,T5 h2,h3];cases kids<;>simp)⟩,⟨_,rfl,.wo⟩,trivial⟩) (by omega)
 ·have hke:k=kids.length:=by rw[aH] at h;simp at h;omega
  rw[hke,UM] at *;have hm1:=hmost kids;have hm2:=hmost (kids.drop 1);have hs2:=hsum kids;clear hke h;rcases(show kind=0∨kind=1∨kind=2∨kind=3∨kind=4 by omega) with rfl|rfl|rfl|rfl|rfl
  ·have hz:=NI (.mk vk vn vs vks) (by omega);have hval:kY bs ⟨0,name,lo,hi,ws,ls,vals,kids,.mk vk vn vs vks⟩=((aY (.mk vk vn vs vks):Nat):Int):=rfl;generalize aY (.mk vk vn vs vks)=sz at hz hval;refine Rr ?_;refine hz.go ?_;refine Rr ?_;refine aM (bT rfl rfl (by rw[aH]) (by simp;omega)) ?_;refine Rr ?_;exact hfin sz _ _ _ _ rfl (by decide) rfl hval.symm
  ·refine Rr ?_;refine aM (bT rfl rfl (by rw[aH]) (by simp;omega)) ?_;refine Rr ?_;exact hfin 1 _ _ _ _ rfl (by decide) rfl rfl
  ·rw[T7 rfl] at *;refine Rr ?_;refine aM (bT rfl rfl (by rw[aH]) (by simp;omega)) ?_;refine Rr ?_;exact hfin (cS bs kids) _ _ _ _ rfl (by decide) rfl rfl
  ·refine Rr ?_;refine aM (bT rfl rfl (by rw[aH]) (by simp;omega)) ?_;refine Rr ?_;exact hfin (1+Go.Ax.f8 bs kids) _ _ _ _ rfl (by decide) rfl rfl
  ·rw[T5 (by omega)] at *;refine Rr ?_;refine aM (bT rfl rfl (by rw[aH]) (by simp;omega)) ?_;refine Rr ?_;exact hfin (cS bs (kids.drop 1)) _ _ _ _ rfl (by decide) rfl rfl
theorem Ks{l:List aT}{k:Nat}{v a:aT}(h:l[k]? = some a):Gx l k v=(bR a v == 0):=by simp[Gx,h]
theorem Ke{l:List aT}{k:Nat}{v:aT}(h:l.length<=k):Gx l k v=false:=by simp[Gx,UE h]
theorem ST(l:List aT)(v:aT)(hl:l.length<=4294967296)(hok:∀a∈l,g5 a) :
  aZ prog [] 248 [.il 4 (aS l),cK v] (.tup [.int .i64 (i0 l v).1,.bool (i0 l v).2]):=by
 obtain⟨vk,vn,vs,vks⟩:=v;have nl:NN (.il 4 (aS l)):=.il' (bC l);have nt:∀(k:Int) (b:Bool),NN (.tup [.int .i64 k,.bool b]):=fun k b=>.tup' (.cons (.int _ _) (.cons (.bool _) .nil))
 refine Go.Ax.f6 bB func248 rfl ?_
 conv=>whnf
 refine eD.loopAt bB (fun k:Nat=>k<=l.length/\∀p a,p<k->l[p]? = some a->bR a (.mk vk vn vs vks)<0)
  (fun k=>⟨[(0,.il 4 (aS l)),(3,.ptr 0 0 0),(6,.int .i64 k)],[(0,.row 55 4 [cK (.mk vk vn vs vks)])],1,27⟩)
  (fun k=>l.length-k) 0 [(0,0)] ⟨by simp,by simp⟩
  (aF _ rfl ⟨aK 0 (.cons (dZ _) .nil),trivial⟩ ⟨aQ nl,aI,aQ (.int _ _),trivial⟩) ?_
 rintro k ⟨h1,h2⟩
 conv=>whnf
 refine aD (fun h=>?_) (fun h=>?_)
 ·have hk:k<l.length:=by rw[aB] at h;simpa using h
  have e:=Ez hk;obtain⟨⟨ak,an,az,aks⟩,hv⟩:∃a,a=l[k]:=⟨_,rfl⟩
  rw[←hv] at e;have hm:aT.mk ak an az aks∈l:=by rw[hv];exact UW hk
  have hg:l[k]? = some (aT.mk ak an az aks):=by rw[hv];exact Ty hk
  conv=>whnf
  refine aC e ?_
  conv=>whnf
  refine(xU (.mk ak an az aks) (.mk vk vn vs vks) (hok _ hm)).use bB (.cons (dZ _) (.cons (dZ _) .nil)) (.int _ _) ?_
  conv=>whnf
  refine aD (fun h3=>?_) (fun h3=>?_)
  ·have h3:0<=bR (.mk ak an az aks) (.mk vk vn vs vks):=by simpa using h3
   conv=>whnf
   refine aA (nt _ _) ⟨?_,rfl,rfl⟩;rw[Ce h1 h2 (fun a ha=>by rw[hg] at ha;cases ha;exact h3),Ks hg]
  ·have h3:bR (.mk ak an az aks) (.mk vk vn vs vks)<0:=by simpa using h3
   conv=>whnf
   refine .mk (k+1) [(0,0)] ⟨by omega,fun p a hp ha=>?_⟩ (aF _ rfl ⟨aK 0 (.cons (dZ _) .nil),trivial⟩ ⟨aQ nl,aI,⟨_,rfl,.eq (.int _ _) ?_⟩,trivial⟩) (by omega)
   ·rcases UG p k with hp'|hp'
    ·exact h2 p a hp' ha
    ·have:p=k:=by omega
     subst this;rw[hg] at ha;cases ha;exact h3
   ·rw[bE ⟨by omega,by omega⟩];rfl
 ·have hk:k=l.length:=by rw[aB] at h;simp at h;omega
  conv=>whnf
  refine aA (nt _ _) ⟨?_,rfl,rfl⟩;rw[Ce h1 h2 (fun a ha=>by rw[UE (by omega)] at ha;cases ha),Ke (by omega),aB,hk]
set_option maxHeartbeats 4000000
theorem TB(k:Int)(b:Bool):Sc (.tup [.int .i64 k,.bool b]):=.tup _ fun j c h=>by
 rcases j with _|_|j<;>simp at h<;>subst h
 ·exact .int _ _
 ·exact .bool _
theorem Ho(l:List aT)(hl:l.length<=4294967296)(hok:∀a∈l,g5 a) :
  aE prog [] 231 [.il 4 (aS l)] [] 0 fun r m n=>r = .sl 0 0 (eB l).length/\m=[(0,.row 55 4 (aS (eB l)))]/\n=1:=by
 have nl:NN (.il 4 (aS l)):=nn;refine aG bB func231 rfl ?_;refine Rr ?_;refine bA.ph 55 4 ?_;refine bA.at bB (fun x:Nat × List aT=>x.1<=l.length/\x.2=eB (l.take x.1))
  (fun x=>⟨[(0,.il 4 (aS l)),(3,.sl 0 0 x.2.length),(4,.int .i64 x.1)],[(0,.row 55 4 (aS x.2))],1,41⟩)
  (fun x=>l.length-x.1) (0,[]) [(0,0)] ⟨by simp,by simp[eB]⟩
  (aF _ rfl ⟨⟨0,_,rfl,rfl,.nil⟩,trivial⟩ ⟨aQ nl,⟨_,rfl,.nslk 0 0 _ rfl rfl⟩,aJ,trivial⟩) ?_
 rintro⟨k,out⟩ ⟨h1,h2⟩
 dsimp only at h1 h2 ⊢
 have hout:out.length<=k:=by rw[h2];have:=qC (l.take k);simp at this;omega
 have el:=aB out;have hoko:∀a∈out,g5 a:=fun a ha=>by rw[h2] at ha;exact hok a (Uc (pG ha))
 refine Rr ?_;refine aD (fun h=>?_) (fun h=>?_)
 ·have hk:k<l.length:=GE h;obtain⟨ak,an,az,aks,hmem,hg,hv,e⟩:=bZ (l:=l) (k:=k) hk;have hnext:eB (l.take (k+1))=uN out (.mk ak an az aks):=by
   rw[T9 hk,nU,←h2,hv]
  have hf:=ST out (.mk ak an az aks) (by omega) hoko;have hle:=By out (.mk ak an az aks);have hins:uN out (.mk ak an az aks)=if (i0 out (.mk ak an az aks)).2 then out else out.take (i0 out (.mk ak an az aks)).1 ++ .mk ak an az aks::out.drop (i0 out (.mk ak an az aks)).1:=rfl
  generalize i0 out (.mk ak an az aks)=f at hf hle hins;generalize uN out (.mk ak an az aks)=nw at hnext hins;obtain⟨p,b⟩:=f
  dsimp only at hle hins hf
  refine Rr ?_;refine aC e ?_;refine Rr ?_;refine hf.lend bB (.cons (.fz' rfl rfl (by rw[aB];omega) (by rw[←aB];simp) (bC out)) (.cons (.same _ (dZ (.mk ak an az aks))) .nil)) (TB _ _) ?_;cases b with
  | true=>
   refine Rr ?_;rw[T7 rfl] at hins;exact .mk (k+1,out) [(0,0)] ⟨by simp only;omega,by rw[←hins];exact hnext.symm⟩ (aF _ rfl ⟨aK 0 cZ,trivial⟩ ⟨aQ nl,⟨_,rfl,.sl 0 0 0 _ rfl⟩,⟨_,rfl,.w64 (by simp) ⟨by omega,by omega⟩⟩,trivial⟩) (by simp only;omega)
  | false=>
   rw[T5 (by simp)] at hins;refine Rr ?_;repeat(first
    | (refine bH ?_;refine Rr ?_)
    | (refine aC e ?_;refine Rr ?_)
    | (refine aM (Ry (by simp;try omega) (by simp;try omega) (by simp;try omega)) ?_;refine Rr ?_)
    | (refine aM (Hy (by simp;try omega)) ?_;refine Rr ?_)
    | (refine aM (A9 rfl (by simp;try omega)) ?_;refine Rr ?_)
    | (refine aM (bT rfl rfl (by simp;try omega) (by simp;try omega)) ?_;refine Rr ?_))
   have hrow:List.take ((p:Int).toNat-0) (List.drop (0+0) (aS out))++List.take 1 (List.drop 0 [AV.agg [.int .i64 ak,.int .i64 an,.str az,.il 4 (aS aks)]])++List.take (out.length-(p:Int).toNat) (List.drop (0+(p:Int).toNat) (aS out))=aS nw:=by
    rw[hins];simp[iE,cK,List.map_take,List.map_drop];exact UB (by simp)
   exact .mk (k+1,nw) [(19,0)] ⟨by simp only;omega,hnext.symm⟩ (aF _ rfl ⟨⟨19,_,rfl,rfl,.eq cZ hrow⟩,trivial⟩ ⟨aQ nl,⟨_,rfl,.slE rfl (by have:=congrArg List.length hrow;rw[UV,UV,aB] at this;exact this)⟩,⟨_,rfl,.w64 (by simp) ⟨by omega,by omega⟩⟩,trivial⟩) (by simp only;omega)
 ·have hk:k=l.length:=by have:=G5 h;omega
  refine Rr ?_;rw[hk,UM] at h2;subst h2;exact bJ (n':=1) (m':=[(0,.row 55 4 (aS (eB l)))]) [(0,0)] rfl ⟨aK 0 cZ,trivial⟩ (.sl 0 0 0 _ rfl) ⟨rfl,rfl,rfl⟩
theorem RT(l:List aT)(hl:l.length<=4294967296)(hok:∀a∈l,g5 a):aZ prog [] 231 [.il 4 (aS l)] (.il 4 (aS (eB l))):=by
 refine aE.turn bB ((Ho l hl hok).mono ?_);rintro r m n ⟨rfl,rfl,rfl⟩;exact gL (.fz' rfl rfl (by rw[aB];omega) (by rw[←aB];simp) cZ) ⟨rfl,rfl,rfl⟩
set_option maxHeartbeats 8000000
theorem Kc(x:Nd)(bs:List iB)(h0:x.kind=0):aE prog [] 191 [cN x,.sl 0 0 bs.length] [(0,.row 225 2 (encLs bs))] 1 fun r m _=>r=k7 (dA x bs)/\m=[(0,.row 225 2 (encLs bs))]:=by
 have nb:NN (.il 2 (encLs bs)):=.il' (encLs_nn bs);obtain⟨kind,name,lo,hi,ws,ls,vals,kids,⟨vk,vn,vs,vks⟩⟩:=x;simp only at h0;subst h0;refine aG bB func191 rfl ?_;refine Rr ?_;refine bJ (r':=k7 ⟨[.mk vk vn vs vks],false⟩) (n':=1) (m':=[(0,.row 225 2 (encLs bs))]) [(0,0)] rfl ⟨aK 0 (encLs_nn bs),trivial⟩ (.agg' (.cons (.fzR rfl rfl (.cons (D1.same (x:=cK (.mk vk vn vs vks)) nn) .nil) rfl) (.s .nil))) ⟨rfl,rfl⟩
theorem ID(x:Nd)(bs:List iB)(h1:x.kind=1)(hlo : -4611686018427387904<=x.lo)(hh:x.lo<=x.hi)(hhi:x.hi<=4611686018427387904)(hsp:x.hi<x.lo+1099511627776):aE prog [] 191 [cN x,.sl 0 0 bs.length] [(0,.row 225 2 (encLs bs))] 1 fun r m _=>r=k7 (dA x bs)/\m=[(0,.row 225 2 (encLs bs))]:=by
 obtain⟨kind,name,lo,hi,ws,ls,vals,kids,⟨vk,vn,vs,vks⟩⟩:=x;simp only at h1 hlo hh hhi hsp;subst h1;have hres:dA ⟨1,name,lo,hi,ws,ls,vals,kids,.mk vk vn vs vks⟩ bs=if 1024<=hi-lo then⟨[],true⟩ else⟨p5 lo (hi+1-lo).toNat,false⟩:=rfl
 generalize dA ⟨1,name,lo,hi,ws,ls,vals,kids,.mk vk vn vs vks⟩ bs=res at hres;have hw:IntKind.i64.wrap (hi-lo)=hi-lo:=w64 rfl ⟨by omega,by omega⟩;refine aG bB func191 rfl ?_;refine Rr ?_;rw[hw];refine aD (fun h=>?_) (fun h=>?_)
 ·refine Rr ?_;exact bJ (r':=k7 ⟨[],true⟩) (n':=1) (m':=[(0,.row 225 2 (encLs bs))]) [(0,0)] rfl ⟨aK 0 (encLs_nn bs),trivial⟩ (.agg' (.cons (.nil 4) (.s .nil))) ⟨by rw[hres,T7 (by simpa using h)],rfl⟩
 ·have hlt:hi-lo<1024:=by simpa using h
  rw[T5 (by omega)] at hres;refine Rr ?_;refine bA.ph 55 4 ?_;refine bA.at bB (fun k:Nat=>lo+k<=hi+1)
   (fun k=>⟨[(2,.ptr 1 0 0),(4,.ptr 2 0 0),(5,.ptr 3 0 0),(6,.int .i64 (lo+k))],[(0,.row 225 2 (encLs bs)),(1,.row 57 12 [cN ⟨1,name,lo,hi,ws,ls,vals,kids,.mk vk vn vs vks⟩]),(2,.row 225 2 [.agg [.nsl,.bool false]]),(3,.row 225 2 [.agg [.sl 4 0 (p5 lo k).length,.bool false]]),(4,.row 55 4 (aS (p5 lo k)))],5,96⟩)
   (fun k=>(hi+1-lo).toNat-k) 0 [(0,0),(1,1),(2,2),(3,3),(4,4)] (by omega)
   (aF _ rfl ⟨aK 0 (encLs_nn bs),aK 1 (.cons (aW _) .nil),aK 2 cZ,⟨3,_,rfl,rfl,.cons (.agg (.cons (.nslk 4 4 _ rfl rfl) (.s .nil))) .nil⟩,⟨4,_,rfl,rfl,.nil⟩,trivial⟩ ⟨aI,aI,aI,⟨_,rfl,.int (by simp)⟩,trivial⟩) ?_
  intro k hk;have hlen:=DO lo k;refine Rr ?_;refine aD (fun h=>?_) (fun h=>?_)
  ·have hkl:lo+k<=hi:=by simpa using h
   refine Rr ?_;refine aM (bT rfl rfl (by rw[aB]) (by simp;omega)) ?_;refine Rr ?_;exact .mk (k+1) [(0,0),(1,1),(2,2),(3,3),(6,4)] (by omega)
    (aF _ rfl ⟨aK 0 (encLs_nn bs),aK 1 (.cons (aW _) .nil),aK 2 cZ,⟨3,_,rfl,rfl,.cons (.agg (.cons (.slE rfl (by rw[AC];simp)) (.s .nil))) .nil⟩,⟨6,_,rfl,rfl,by rw[AC,iR];exact .snoc rfl (.same cZ) (JY _ _ _)⟩,trivial⟩ ⟨aI,aI,aI,⟨_,rfl,.wo⟩,trivial⟩) (by omega)
  ·have hke:k=(hi+1-lo).toNat:=by simp at h;omega
   refine Rr ?_;exact bJ (r':=k7 ⟨p5 lo k,false⟩) (n':=1) (m':=[(0,.row 225 2 (encLs bs))]) [(0,0)] rfl ⟨aK 0 (encLs_nn bs),trivial⟩ (.agg' (.cons (.fzR rfl rfl (.same cZ) (by rw[aB])) (.s .nil))) ⟨by rw[hres,hke],rfl⟩
set_option maxHeartbeats 8000000
theorem Jh(x:Nd)(bs:List iB)(h2:x.kind=2)(hkl:x.kids.length<=65536)(hk:∀(j:Nat) (k:Int),x.kids[j]? = some k->0<=k/\k<bs.length)(hb:∀b∈bs,b.vals.length<=1024/\∀v∈b.vals,g5 v) :
  aE prog [] 191 [cN x,.sl 0 0 bs.length] [(0,.row 225 2 (encLs bs))] 1 fun r m _=>r=k7 (dA x bs)/\m=[(0,.row 225 2 (encLs bs))]:=by
 have nb:NN (.il 2 (encLs bs)):=.il' (encLs_nn bs);obtain⟨kind,name,lo,hi,ws,ls,vals,kids,⟨vk,vn,vs,vks⟩⟩:=x;simp only at h2 hkl hk;subst h2;have hres:dA ⟨2,name,lo,hi,ws,ls,vals,kids,.mk vk vn vs vks⟩ bs=mY bs kids:=rfl;generalize dA ⟨2,name,lo,hi,ws,ls,vals,kids,.mk vk vn vs vks⟩ bs=res at hres;refine aG bB func191 rfl ?_;refine Rr ?_;refine bA.ph 55 4 ?_;refine bA.at bB (fun a:Nat × (List aT × Bool)=>a.1<=kids.length/\a.2=(kids.take a.1).foldl (bX bs) ([],false))
  (fun a=>⟨[(1,.sl 0 0 bs.length),(2,.ptr 1 0 0),(4,.ptr 2 0 0),(5,.ptr 3 0 0),(7,.int .i64 a.1)],[(0,.row 225 2 (encLs bs)),(1,.row 57 12 [cN ⟨2,name,lo,hi,ws,ls,vals,kids,.mk vk vn vs vks⟩]),(2,.row 225 2 [.agg [.nsl,.bool false]]),(3,.row 225 2 [.agg [.sl 4 0 a.2.1.length,.bool a.2.2]]),(4,.row 55 4 (aS a.2.1))],5,96⟩)
  (fun a=>kids.length-a.1) (0,[],false) [(0,0),(1,1),(2,2),(3,3),(4,4)] ⟨by simp,by simp⟩
  (aF _ rfl ⟨aK 0 (encLs_nn bs),aK 1 (.cons (aW _) .nil),aK 2 cZ,⟨3,_,rfl,rfl,.cons (.agg (.cons (.nslk 4 4 _ rfl rfl) (.s .nil))) .nil⟩,⟨4,_,rfl,rfl,.nil⟩,trivial⟩ ⟨⟨_,rfl,.sl 0 0 0 _ rfl⟩,aI,aI,aI,⟨_,rfl,.int rfl⟩,trivial⟩) ?_
 rintro⟨k,a1,am⟩ ⟨hkk,ha⟩;simp only at hkk ha;have hbd:=Go.Ax.t9 hb (kids.take k) ([],false) 0 (by simp) (by simp);rw[←ha] at hbd;simp only at hbd;have hlk:(kids.take k).length<=65536:=by simp;omega
 have ha1:a1.length<=67108864:=by omega
 refine Rr ?_;refine aD (fun h=>?_) (fun h=>?_)
 ·have hlt:k<kids.length:=by rw[aH] at h;simpa using h
  have e1:(bG kids)[(k:Int).toNat]? = some (.int .i64 kids[k]):=by rw[T4,bL,Ty hlt];rfl
  have hg:kids[k]? = some kids[k]:=Ty hlt;have hstep:=Hv (bX bs) hlt ([],false);rw[←ha] at hstep;generalize kids[k]=q at e1 hg hstep;obtain⟨q1,q2⟩:=hk k q hg;obtain⟨qn,rfl⟩:=UH q1;have hqn:qn<bs.length:=by omega
  obtain⟨⟨bv,bm⟩,hbe⟩:∃b,b=bs[qn]:=⟨_,rfl⟩
  have hbm:=hb _ (show (⟨bv,bm⟩:iB)∈bs by rw[hbe];exact UW hqn);simp only at hbm;have hat:dB bs qn=⟨bv,bm⟩:=by rw[hbe];simp[dB,hqn]
  have bq:Nat.blt (qn:Int).toNat bs.length=true:=T8 (by simp;omega);have e2:(encLs bs)[0+(qn:Int).toNat]? = some (k7 ⟨bv,bm⟩):=by rw[UT,T4,encLs_get,Ty hqn,←hbe];rfl
  have hso:=Ho (a1++bv) (by simp;omega) (fun v hv=>by
   rcases UI.1 hv with h|h
   ·exact hbd.2 v h
   ·exact hbm.2 v h)
  have hun:bX bs (a1,am) qn=(eB (a1++bv),am || bm || decide (1024<(eB (a1++bv)).length)):=by simp[bX,hat]
  rw[hun] at hstep;generalize eB (a1++bv)=sv at hso hstep;refine Rr ?_;refine aC e1 ?_;refine Rr ?_;repeat((first|refine aM bq ?_|refine aC e2 ?_);refine Rr ?_)
  refine aM (bT rfl rfl (by rw[aB]) (by simp[aB];omega)) ?_;refine Rr ?_;refine aE.pre bB [(5,5),(0,0),(1,1),(2,2),(3,3)] (mem':=[(5,.row 225 2 [.agg [.il 4 (aS bv),.bool bm]]),(0,.row 225 2 (encLs bs)),(1,.row 57 12 [cN ⟨2,name,lo,hi,ws,ls,vals,kids,.mk vk vn vs vks⟩]),(2,.row 225 2 [.agg [.nsl,.bool false]]),(3,.row 225 2 [.agg [.junk,.bool am]])]) rfl
   ⟨aK 5 cZ,aK 0 (encLs_nn bs),aK 1 (.cons (aW _) .nil),aK 2 cZ,⟨3,_,rfl,rfl,.cons (.agg (.cons (.junk _) (.s .nil))) .nil⟩,trivial⟩
   (.cons (.fzR (ys:=aS (a1++bv)) rfl rfl (.eq cZ (by simp[iE])) (by simp[aB])) .nil) ?_
  refine aE.useNew bB hso cZ cZ ?_;cases am<;>cases bm
  all_goals
   refine Rr ?_;exact .mk (k+1,sv,_) [(0,0),(1,1),(2,2),(3,3),(7,4)] ⟨by simp only;omega,hstep.symm⟩
    (aF _ rfl ⟨aK 0 (encLs_nn bs),aK 1 (.cons (aW _) .nil),aK 2 cZ,⟨3,_,rfl,rfl,.cons (.agg (.cons (.sl 7 4 0 _ rfl) (.cons (.bool (by simp[Va]<;>omega)) .nil))) .nil⟩,aK 7 cZ,trivial⟩
     ⟨⟨_,rfl,.sl 0 0 0 _ rfl⟩,aI,aI,aI,⟨_,rfl,.w64 (by simp) ⟨by simp only;omega,by simp only;omega⟩⟩,trivial⟩) (by simp only;omega)
 ·have hke:k=kids.length:=by rw[aH] at h;simp at h;omega
  rw[hke,UM] at ha;have hu:mY bs kids=if am then⟨[],true⟩ else⟨a1,false⟩:=by
   unfold mY;rw[←ha]
  cases am with
  | true=>
   refine Rr ?_;exact bJ (r':=k7 ⟨[],true⟩) (n':=1) (m':=[(0,.row 225 2 (encLs bs))]) [(0,0)] rfl ⟨aK 0 (encLs_nn bs),trivial⟩ (.agg' (.cons (.nil 4) (.s .nil))) ⟨by rw[hres,hu,T7 rfl],rfl⟩
  | false=>
   refine Rr ?_;exact bJ (r':=k7 ⟨a1,false⟩) (n':=1) (m':=[(0,.row 225 2 (encLs bs))]) [(0,0)] rfl ⟨aK 0 (encLs_nn bs),trivial⟩ (.agg' (.cons (.fzR rfl rfl (.same cZ) (by rw[aB])) (.s .nil))) ⟨by rw[hres,hu,T5 (by simp)],rfl⟩
set_option maxHeartbeats 8000000
theorem KX(x:Nd)(bs:List iB)(h2:x.kind=4)(hkl:x.kids.length<=65536)(hk:∀(j:Nat) (k:Int),x.kids[j]? = some k->0<=k/\k<bs.length)(hb:∀b∈bs,b.vals.length<=1024/\∀v∈b.vals,g5 v) :
  aE prog [] 191 [cN x,.sl 0 0 bs.length] [(0,.row 225 2 (encLs bs))] 1 fun r m _=>r=k7 (dA x bs)/\m=[(0,.row 225 2 (encLs bs))]:=by
 have nb:NN (.il 2 (encLs bs)):=.il' (encLs_nn bs);obtain⟨kind,name,lo,hi,ws,ls,vals,kids,⟨vk,vn,vs,vks⟩⟩:=x;simp only at h2 hkl hk;subst h2;have hres:dA ⟨4,name,lo,hi,ws,ls,vals,kids,.mk vk vn vs vks⟩ bs=mY bs (kids.drop 1):=rfl;generalize dA ⟨4,name,lo,hi,ws,ls,vals,kids,.mk vk vn vs vks⟩ bs=res at hres;refine aG bB func191 rfl ?_;refine Rr ?_;refine bA.ph 55 4 ?_;refine bA.at bB (fun a:Nat × (List aT × Bool)=>a.1<=kids.length/\a.2=((kids.take a.1).drop 1).foldl (bX bs) ([],false))
  (fun a=>⟨[(1,.sl 0 0 bs.length),(2,.ptr 1 0 0),(4,.ptr 2 0 0),(5,.ptr 3 0 0),(7,.int .i64 a.1)],[(0,.row 225 2 (encLs bs)),(1,.row 57 12 [cN ⟨4,name,lo,hi,ws,ls,vals,kids,.mk vk vn vs vks⟩]),(2,.row 225 2 [.agg [.nsl,.bool false]]),(3,.row 225 2 [.agg [.sl 4 0 a.2.1.length,.bool a.2.2]]),(4,.row 55 4 (aS a.2.1))],5,96⟩)
  (fun a=>kids.length-a.1) (0,[],false) [(0,0),(1,1),(2,2),(3,3),(4,4)] ⟨by simp,by simp⟩
  (aF _ rfl ⟨aK 0 (encLs_nn bs),aK 1 (.cons (aW _) .nil),aK 2 cZ,⟨3,_,rfl,rfl,.cons (.agg (.cons (.nslk 4 4 _ rfl rfl) (.s .nil))) .nil⟩,⟨4,_,rfl,rfl,.nil⟩,trivial⟩ ⟨⟨_,rfl,.sl 0 0 0 _ rfl⟩,aI,aI,aI,⟨_,rfl,.int rfl⟩,trivial⟩) ?_
 rintro⟨k,a1,am⟩ ⟨hkk,ha⟩;simp only at hkk ha;have hbd:=Go.Ax.t9 hb ((kids.take k).drop 1) ([],false) 0 (by simp) (by simp);rw[←ha] at hbd;simp only at hbd;have hlk:((kids.take k).drop 1).length<=65536:=by simp;omega
 have ha1:a1.length<=67108864:=by omega
 refine Rr ?_;refine aD (fun h=>?_) (fun h=>?_)
 ·have hlt:k<kids.length:=by rw[aH] at h;simpa using h
  have e1:(bG kids)[(k:Int).toNat]? = some (.int .i64 kids[k]):=by rw[T4,bL,Ty hlt];rfl
  have hg:kids[k]? = some kids[k]:=Ty hlt;refine Rr ?_;refine aD (fun h=>?_) (fun h=>?_)
  ·have hk0:k=0:=by simp at h;omega
   subst hk0;refine Rr ?_;exact .mk (1,a1,am) [(0,0),(1,1),(2,2),(3,3),(4,4)] ⟨by simp only;omega,by rw[ha];cases kids<;>simp⟩
    (aF _ rfl ⟨aK 0 (encLs_nn bs),aK 1 (.cons (aW _) .nil),aK 2 cZ,⟨3,_,rfl,rfl,.cons (.agg (.cons (.sl 4 4 0 _ rfl) (.s .nil))) .nil⟩,aK 4 cZ,trivial⟩ ⟨⟨_,rfl,.sl 0 0 0 _ rfl⟩,aI,aI,aI,⟨_,rfl,.int rfl⟩,trivial⟩) (by simp only;omega)
  have hk0:0<k:=by
   rcases UK k with h'|h'
   ·rw[h'] at h;simp at h
   ·exact h'
  have hstep:=II (bX bs) hlt hk0 ([],false);rw[←ha] at hstep;generalize kids[k]=q at e1 hg hstep;obtain⟨q1,q2⟩:=hk k q hg;obtain⟨qn,rfl⟩:=UH q1;have hqn:qn<bs.length:=by omega
  obtain⟨⟨bv,bm⟩,hbe⟩:∃b,b=bs[qn]:=⟨_,rfl⟩
  have hbm:=hb _ (show (⟨bv,bm⟩:iB)∈bs by rw[hbe];exact UW hqn);simp only at hbm;have hat:dB bs qn=⟨bv,bm⟩:=by rw[hbe];simp[dB,hqn]
  have bq:Nat.blt (qn:Int).toNat bs.length=true:=T8 (by simp;omega);have e2:(encLs bs)[0+(qn:Int).toNat]? = some (k7 ⟨bv,bm⟩):=by rw[UT,T4,encLs_get,Ty hqn,←hbe];rfl
  have hso:=Ho (a1++bv) (by simp;omega) (fun v hv=>by
   rcases UI.1 hv with h|h
   ·exact hbd.2 v h
   ·exact hbm.2 v h)
  have hun:bX bs (a1,am) qn=(eB (a1++bv),am || bm || decide (1024<(eB (a1++bv)).length)):=by simp[bX,hat]
  rw[hun] at hstep;generalize eB (a1++bv)=sv at hso hstep;refine Rr ?_;refine aC e1 ?_;refine Rr ?_;repeat((first|refine aM bq ?_|refine aC e2 ?_);refine Rr ?_)
  refine aM (bT rfl rfl (by rw[aB]) (by simp[aB];omega)) ?_;refine Rr ?_;refine aE.pre bB [(5,5),(0,0),(1,1),(2,2),(3,3)] (mem':=[(5,.row 225 2 [.agg [.il 4 (aS bv),.bool bm]]),(0,.row 225 2 (encLs bs)),(1,.row 57 12 [cN ⟨4,name,lo,hi,ws,ls,vals,kids,.mk vk vn vs vks⟩]),(2,.row 225 2 [.agg [.nsl,.bool false]]),(3,.row 225 2 [.agg [.junk,.bool am]])]) rfl
   ⟨aK 5 cZ,aK 0 (encLs_nn bs),aK 1 (.cons (aW _) .nil),aK 2 cZ,⟨3,_,rfl,rfl,.cons (.agg (.cons (.junk _) (.s .nil))) .nil⟩,trivial⟩
   (.cons (.fzR (ys:=aS (a1++bv)) rfl rfl (.eq cZ (by simp[iE])) (by simp[aB])) .nil) ?_
  refine aE.useNew bB hso cZ cZ ?_;cases am<;>cases bm
  all_goals
   refine Rr ?_;exact .mk (k+1,sv,_) [(0,0),(1,1),(2,2),(3,3),(7,4)] ⟨by simp only;omega,hstep.symm⟩
    (aF _ rfl ⟨aK 0 (encLs_nn bs),aK 1 (.cons (aW _) .nil),aK 2 cZ,⟨3,_,rfl,rfl,.cons (.agg (.cons (.sl 7 4 0 _ rfl) (.cons (.bool (by simp[Va]<;>omega)) .nil))) .nil⟩,aK 7 cZ,trivial⟩
     ⟨⟨_,rfl,.sl 0 0 0 _ rfl⟩,aI,aI,aI,⟨_,rfl,.w64 (by simp) ⟨by simp only;omega,by simp only;omega⟩⟩,trivial⟩) (by simp only;omega)
 ·have hke:k=kids.length:=by rw[aH] at h;simp at h;omega
  rw[hke,UM] at ha;have hu:mY bs (kids.drop 1)=if am then⟨[],true⟩ else⟨a1,false⟩:=by
   unfold mY;rw[←ha]
  cases am with
  | true=>
   refine Rr ?_;exact bJ (r':=k7 ⟨[],true⟩) (n':=1) (m':=[(0,.row 225 2 (encLs bs))]) [(0,0)] rfl ⟨aK 0 (encLs_nn bs),trivial⟩ (.agg' (.cons (.nil 4) (.s .nil))) ⟨by rw[hres,hu,T7 rfl],rfl⟩
  | false=>
   refine Rr ?_;exact bJ (r':=k7 ⟨a1,false⟩) (n':=1) (m':=[(0,.row 225 2 (encLs bs))]) [(0,0)] rfl ⟨aK 0 (encLs_nn bs),trivial⟩ (.agg' (.cons (.fzR rfl rfl (.same cZ) (by rw[aB])) (.s .nil))) ⟨by rw[hres,hu,T5 (by simp)],rfl⟩
set_option maxHeartbeats 8000000
def mA(l:List (List aT)):List AV:=l.map fun r=>.il 4 (aS r)
theorem iQ(l:List (List aT)):kH (mA l):=fun a ha=>by
 obtain⟨n,_,rfl⟩:=US.1 ha;exact nn
theorem pQ(l:List aT):∀rows:List (List aT),(eO rows l).length=rows.length*l.length
 | []=>by simp[eO]
 | r::rs=>by
  have:=pQ l rs;simp only[eO,VA,UV,VW,Ul,UZ,U8] at this ⊢;omega
theorem Hu(l:List (List aT))(r:List aT):mA (l++[r])=mA l++[.il 4 (aS r)]:=by simp[mA]
theorem Ep(l:List (List aT)):(mA l).length=l.length:=by simp[mA]
theorem Fh{name:List UInt8}(hn:name.length<=4294967296){r:List aT}(hr:r.length<=4294967296)(ho:∀v∈r,g5 v):g5 (dO name r):=by
 unfold dO;split
 ·exact kL ⟨by omega,by omega⟩ ⟨by omega,by omega⟩ (by simp) hr (oI ho)
 ·exact kL ⟨by omega,by omega⟩ ⟨by omega,by omega⟩ hn hr (oI ho)
theorem S5(x:Nd)(bs:List iB)(hname:x.name.length<=4294967296)(hkl:x.kids.length<=65536)(hk:∀(j:Nat) (k:Int),x.kids[j]? = some k->0<=k/\k<bs.length)(hb:∀b∈bs,b.vals.length<=1024/\∀v∈b.vals,g5 v) :
  aE prog [] 230 [cN x,.sl 0 0 bs.length] [(0,.row 225 2 (encLs bs))] 1 fun r m _=>r=k7 (pL bs x)/\m=[(0,.row 225 2 (encLs bs))]:=by
 obtain⟨kind,name,lo,hi,ws,ls,vals,kids,⟨vk,vn,vs,vks⟩⟩:=x;simp only at hkl hk hname;refine aG bB func230 rfl ?_;refine Rr ?_;refine bA.at bB (fun a:Nat × List (List aT)=>a.1<=kids.length/\a.2.length<=1024/\(∀r∈a.2,r.length<=a.1/\∀v∈r,g5 v)/\fT bs kids [[]]=fT bs (kids.drop a.1) a.2)
  (fun a=>⟨[(1,.sl 0 0 bs.length),(2,.ptr 1 0 0),(4,.ptr 2 0 0),(5,.sl 3 0 a.2.length),(6,.int .i64 a.1)],[(0,.row 225 2 (encLs bs)),(1,.row 57 12 [cN ⟨kind,name,lo,hi,ws,ls,vals,kids,.mk vk vn vs vks⟩]),(2,.row 225 2 [.agg [.nsl,.bool false]]),(3,.row 53 1 (mA a.2))],4,91⟩)
  (fun a=>kids.length-a.1) (0,[[]]) [(0,0),(1,1),(2,2),(3,3)] ⟨by simp,by simp,by simp,by simp⟩
  (aF _ rfl ⟨aK 0 (encLs_nn bs),aK 1 (.cons (aW _) .nil),aK 2 cZ,⟨3,_,rfl,rfl,.cons (.one rfl rfl (.nil 4)) .nil⟩,trivial⟩ ⟨⟨_,rfl,.sl 0 0 0 _ rfl⟩,aI,aI,⟨_,rfl,.sl 3 3 0 _ rfl⟩,⟨_,rfl,.int rfl⟩,trivial⟩) ?_
 rintro⟨k,rows⟩ ⟨hkk,hrl,hrr,hro⟩;simp only at hkk hrl hrr hro;have hseq:pL bs ⟨kind,name,lo,hi,ws,ls,vals,kids,.mk vk vn vs vks⟩=match fT bs kids [[]] with|none=>⟨[],true⟩|some rows=>⟨eB (rows.map (dO name)),false⟩:=rfl
 refine Rr ?_;refine aD (fun h=>?_) (fun h=>?_)
 ·have hlt:k<kids.length:=by rw[aH] at h;simpa using h
  have e1:(bG kids)[(k:Int).toNat]? = some (.int .i64 kids[k]):=by rw[T4,bL,Ty hlt];rfl
  have hg:kids[k]? = some kids[k]:=Ty hlt;rw[UU hlt,fT] at hro;generalize kids[k]=q at e1 hg hro;obtain⟨q1,q2⟩:=hk k q hg;obtain⟨qn,rfl⟩:=UH q1;have hqn:qn<bs.length:=by omega
  obtain⟨⟨bv,bm⟩,hbe⟩:∃b,b=bs[qn]:=⟨_,rfl⟩
  have hbm:=hb _ (show (⟨bv,bm⟩:iB)∈bs by rw[hbe];exact UW hqn);simp only at hbm;have hat:dB bs qn=⟨bv,bm⟩:=by rw[hbe];simp[dB,hqn]
  rw[hat] at hro;simp only at hro;have bq:Nat.blt (qn:Int).toNat bs.length=true:=T8 (by simp;omega);have e2:(encLs bs)[0+(qn:Int).toNat]? = some (k7 ⟨bv,bm⟩):=by rw[UT,T4,encLs_get,Ty hqn,←hbe];rfl
  refine Rr ?_;refine aC e1 ?_;refine Rr ?_;repeat((first|refine aM bq ?_|refine aC e2 ?_);refine Rr ?_)
  cases bm with
  | true=>
   refine Rr ?_;exact bJ (r':=k7 ⟨[],true⟩) (n':=1) (m':=[(0,.row 225 2 (encLs bs))]) [(0,0)] rfl ⟨aK 0 (encLs_nn bs),trivial⟩ (.agg' (.cons (.nil 4) (.s .nil))) ⟨by rw[hseq,hro,T7 (.inl rfl)],rfl⟩
  | false=>
   refine Rr ?_;have hmul:IntKind.i64.wrap ((rows.length:Int)*((aS bv).length:Nat))=((rows.length*bv.length:Nat):Int):=by
    have hm:rows.length*bv.length<=1024*1024:=VO hrl hbm.1;rw[aB];exact w64 (by push_cast;rfl) ⟨by omega,by omega⟩
   rw[hmul];refine aD (fun h=>?_) (fun h=>?_)
   ·refine Rr ?_;exact bJ (r':=k7 ⟨[],true⟩) (n':=1) (m':=[(0,.row 225 2 (encLs bs))]) [(0,0)] rfl ⟨aK 0 (encLs_nn bs),trivial⟩ (.agg' (.cons (.nil 4) (.s .nil))) ⟨by rw[hseq,hro,T7 (.inr (by simp only[gt_iff_lt,UJ] at h;omega))],rfl⟩
   ·have hle:rows.length*bv.length<=1024:=by simp only[gt_iff_lt,Vl] at h;omega
    rw[T5 (by simp;omega)] at hro;refine Rr ?_;refine bA.ph 53 1 ?_;refine bA.at bB (fun i:Nat=>i<=rows.length)
     (fun i=>⟨[(1,.sl 0 0 bs.length),(2,.ptr 1 0 0),(4,.ptr 2 0 0),(5,.sl 3 0 rows.length),(6,.int .i64 k),(7,.ptr 4 0 0),(8,.sl 5 0 (eO (rows.take i) bv).length),(9,.int .i64 i)],[(0,.row 225 2 (encLs bs)),(1,.row 57 12 [cN ⟨kind,name,lo,hi,ws,ls,vals,kids,.mk vk vn vs vks⟩]),(2,.row 225 2 [.agg [.nsl,.bool false]]),(3,.row 53 1 (mA rows)),(4,.row 225 2 [k7 ⟨bv,false⟩]),(5,.row 53 1 (mA (eO (rows.take i) bv)))],6,91⟩)
     (fun i=>rows.length-i) 0 [(0,0),(1,1),(2,2),(3,3),(4,4),(5,5)] (by simp)
     (aF _ rfl ⟨aK 0 (encLs_nn bs),aK 1 (.cons (aW _) .nil),aK 2 cZ,aK 3 (iQ _),aK 4 (.cons (lZ _) .nil),⟨5,_,rfl,rfl,.nil⟩,trivial⟩ ⟨⟨_,rfl,.sl 0 0 0 _ rfl⟩,aI,aI,⟨_,rfl,.sl 3 3 0 _ rfl⟩,⟨_,rfl,.int rfl⟩,aI,⟨_,rfl,.nslk 5 5 _ rfl rfl⟩,⟨_,rfl,.int rfl⟩,trivial⟩) ?_
    intro i hi0;refine Rr ?_;refine aD (fun h=>?_) (fun h=>?_)
    ·have hir:i<rows.length:=by simpa using h
     obtain⟨rw,hrw⟩:∃rw,rw=rows[i]:=⟨_,rfl⟩
     have hrl2:=(hrr rw (by rw[hrw];exact UW hir)).1;have e3:(mA rows)[0+(i:Int).toNat]? = some (.il 4 (aS rw)):=by rw[UT,T4,mA,Uh,Ty hir,hrw];rfl
     have b3:Nat.blt (i:Int).toNat rows.length=true:=T8 (by simp;omega);refine Rr ?_;refine bA.at bB (fun j:Nat=>j<=bv.length)
      (fun j=>⟨[(1,.sl 0 0 bs.length),(2,.ptr 1 0 0),(4,.ptr 2 0 0),(5,.sl 3 0 rows.length),(6,.int .i64 k),(7,.ptr 4 0 0),(8,.sl 5 0 (eO (rows.take i) bv++(bv.take j).map fun v=>rw++[v]).length),(9,.int .i64 i),(10,.int .i64 j)],[(0,.row 225 2 (encLs bs)),(1,.row 57 12 [cN ⟨kind,name,lo,hi,ws,ls,vals,kids,.mk vk vn vs vks⟩]),(2,.row 225 2 [.agg [.nsl,.bool false]]),(3,.row 53 1 (mA rows)),(4,.row 225 2 [k7 ⟨bv,false⟩]),(5,.row 53 1 (mA (eO (rows.take i) bv++(bv.take j).map fun v=>rw++[v])))],6,91⟩)
      (fun j=>bv.length-j) 0 [(0,0),(1,1),(2,2),(3,3),(4,4),(5,5)] (by simp)
      (aF _ rfl ⟨aK 0 (encLs_nn bs),aK 1 (.cons (aW _) .nil),aK 2 cZ,aK 3 (iQ _),aK 4 (.cons (lZ _) .nil),⟨5,_,rfl,rfl,.eq (iQ _) (by simp)⟩,trivial⟩ ⟨⟨_,rfl,.sl 0 0 0 _ rfl⟩,aI,aI,⟨_,rfl,.sl 3 3 0 _ rfl⟩,⟨_,rfl,.int rfl⟩,aI,⟨_,rfl,.slE rfl (by simp)⟩,⟨_,rfl,.int rfl⟩,⟨_,rfl,.int rfl⟩,trivial⟩) ?_
     intro j hj;have hX:(eO (rows.take i) bv).length<=1048576:=by
      rw[pQ];exact UQ (VO (show (rows.take i).length<=1024 by simp;omega) hbm.1) (by omega)
     refine Rr ?_;refine aD (fun h=>?_) (fun h=>?_)
     ·have hjl:j<bv.length:=GE h;obtain⟨p1,p2,p3,p4,pm,pg,pe,ep⟩:=bZ (l:=bv) (k:=j) hjl;have hL:eO (rows.take i) bv++((bv.take (j+1)).map fun v=>rw++[v])=(eO (rows.take i) bv++(bv.take j).map fun v=>rw++[v])++[rw++[.mk p1 p2 p3 p4]]:=by
       rw[T9 hjl,pe];simp
      refine Rr ?_;repeat((first|refine aM b3 ?_|refine aC e3 ?_);refine Rr ?_)
      refine aM (A9 rfl (by rw[aB];omega)) ?_;refine Rr ?_;refine aC ep ?_;refine Rr ?_;refine aM (bT rfl rfl (by simp) (by simp[aB];omega)) ?_;refine Rr ?_;refine aM (bT rfl rfl (by rw[Ep]) (by simp;omega)) ?_;refine Rr ?_;exact .mk (j+1) [(0,0),(1,1),(2,2),(3,3),(4,4),(10,5)] (by omega)
       (aF _ rfl ⟨aK 0 (encLs_nn bs),aK 1 (.cons (aW _) .nil),aK 2 cZ,aK 3 (iQ _),aK 4 (.cons (lZ _) .nil),⟨10,_,rfl,rfl,by rw[hL,Hu];exact .snoc rfl (.same (iQ _)) (.one rfl rfl (.fzR rfl rfl (.eq cZ (by rw[iR];rfl)) (by simp[aB])))⟩,trivial⟩ ⟨⟨_,rfl,.sl 0 0 0 _ rfl⟩,aI,aI,⟨_,rfl,.sl 3 3 0 _ rfl⟩,⟨_,rfl,.int rfl⟩,aI,⟨_,rfl,.slE rfl (by rw[hL];simp only[UV];rfl)⟩,⟨_,rfl,.int rfl⟩,⟨_,rfl,.wo⟩,trivial⟩) (by omega)
     ·have hje:j=bv.length:=by have:bv.length<=j:=G5 h;omega
      refine Rr ?_;exact .mk (i+1) [(0,0),(1,1),(2,2),(3,3),(4,4),(5,5)] (by omega)
       (aF _ rfl ⟨aK 0 (encLs_nn bs),aK 1 (.cons (aW _) .nil),aK 2 cZ,aK 3 (iQ _),aK 4 (.cons (lZ _) .nil),⟨5,_,rfl,rfl,.eq (iQ _) (by rw[hje,UM,T9 hir,←hrw];simp[eO])⟩,trivial⟩ ⟨⟨_,rfl,.sl 0 0 0 _ rfl⟩,aI,aI,⟨_,rfl,.sl 3 3 0 _ rfl⟩,⟨_,rfl,.int rfl⟩,aI,⟨_,rfl,.slE rfl (by rw[hje,UM,T9 hir,←hrw];simp[eO])⟩,⟨_,rfl,.wo⟩,trivial⟩) (by omega)
    ·have hie:i=rows.length:=by simp at h;omega
     have hmem:∀r∈eO rows bv,r.length<=k+1/\∀v∈r,g5 v:=by
      intro r hr;simp only[eO,W5,US] at hr;obtain⟨r',hr',v,hv,rfl⟩:=hr;have:=hrr r' hr';refine⟨by simp;omega,fun u hu=>?_⟩;rcases UI.1 hu with hu|hu
      ·exact this.2 u hu
      ·simp at hu;rw[hu];exact hbm.2 v hv
     refine Rr ?_;exact .mk (k+1,eO rows bv) [(0,0),(1,1),(2,2),(5,3)] ⟨by simp only;omega,by rw[pQ];exact hle,hmem,hro⟩
      (aF _ rfl ⟨aK 0 (encLs_nn bs),aK 1 (.cons (aW _) .nil),aK 2 cZ,⟨5,_,rfl,rfl,.eq (iQ _) (by rw[hie,UM])⟩,trivial⟩ ⟨⟨_,rfl,.sl 0 0 0 _ rfl⟩,aI,aI,⟨_,rfl,.slE rfl (by rw[hie,UM])⟩,⟨_,rfl,.w64 (by simp) ⟨by simp only;omega,by simp only;omega⟩⟩,trivial⟩) (by simp only;omega)
 ·have hke:k=kids.length:=by rw[aH] at h;simp at h;omega
  rw[hke,Vh,fT] at hro;refine Rr ?_;refine bA.ph 55 4 ?_;refine bA.at bB (fun i:Nat=>i<=rows.length)
   (fun i=>⟨[(2,.ptr 1 0 0),(4,.ptr 2 0 0),(5,.sl 3 0 rows.length),(12,.sl 4 0 ((rows.take i).map (dO name)).length),(13,.int .i64 i)],[(0,.row 225 2 (encLs bs)),(1,.row 57 12 [cN ⟨kind,name,lo,hi,ws,ls,vals,kids,.mk vk vn vs vks⟩]),(2,.row 225 2 [.agg [.nsl,.bool false]]),(3,.row 53 1 (mA rows)),(4,.row 55 4 (aS ((rows.take i).map (dO name))))],5,91⟩)
   (fun i=>rows.length-i) 0 [(0,0),(1,1),(2,2),(3,3),(4,4)] (by simp)
   (aF _ rfl ⟨aK 0 (encLs_nn bs),aK 1 (.cons (aW _) .nil),aK 2 cZ,aK 3 (iQ _),aK 4 .nil,trivial⟩ ⟨aI,aI,⟨_,rfl,.sl 3 3 0 _ rfl⟩,⟨_,rfl,.nslk 4 4 _ rfl rfl⟩,⟨_,rfl,.int rfl⟩,trivial⟩) ?_
  intro i hi0;refine Rr ?_;refine aD (fun h=>?_) (fun h=>?_)
  ·have hir:i<rows.length:=by simpa using h
   obtain⟨rw,hrw⟩:∃rw,rw=rows[i]:=⟨_,rfl⟩
   have e3:(mA rows)[0+(i:Int).toNat]? = some (.il 4 (aS rw)):=by rw[UT,T4,mA,Uh,Ty hir,hrw];rfl
   have b3:Nat.blt (i:Int).toNat rows.length=true:=T8 (by simp;omega);have hM:=Rf ⟨kind,name,lo,hi,ws,ls,vals,kids,.mk vk vn vs vks⟩ rw;have hL:(rows.take (i+1)).map (dO name)=(rows.take i).map (dO name)++[dO name rw]:=by rw[T9 hir,←hrw];simp
   simp only at hM;obtain⟨⟨m1,m2,m3,m4⟩,hmv⟩:∃mv,mv=dO name rw:=⟨_,rfl⟩
   rw[←hmv] at hM hL;refine Rr ?_;repeat((first|refine bH ?_|refine aM b3 ?_|refine aC e3 ?_);refine Rr ?_)
   refine hM.go ?_ (.cons (aW ⟨kind,name,lo,hi,ws,ls,vals,kids,.mk vk vn vs vks⟩) cZ);refine Rr ?_;refine aM (bT rfl rfl (by rw[aB]) (by simp;omega)) ?_;refine Rr ?_;repeat((first|refine bH ?_|refine aM b3 ?_|refine aC e3 ?_);refine Rr ?_)
   exact .mk (i+1) [(0,0),(1,1),(2,2),(3,3),(15,4)] (by omega)
    (aF _ rfl ⟨aK 0 (encLs_nn bs),aK 1 (.cons (aW _) .nil),aK 2 cZ,aK 3 (iQ _),⟨15,_,rfl,rfl,.eq cZ (by rw[hL,iR];rfl)⟩,trivial⟩ ⟨aI,aI,⟨_,rfl,.sl 3 3 0 _ rfl⟩,⟨_,rfl,.slE rfl (by rw[hL];simp)⟩,⟨_,rfl,.wo⟩,trivial⟩) (by omega)
  ·have hie:i=rows.length:=by simp at h;omega
   rw[hie,UM];have hmo:∀v∈rows.map (dO name),g5 v:=by
    intro v hv;obtain⟨r,hr,rfl⟩:=US.1 hv;have:=hrr r hr;exact Fh hname (by omega) this.2
   have hS:=RT (rows.map (dO name)) (by simp;omega) hmo;have hseq2:pL bs ⟨kind,name,lo,hi,ws,ls,vals,kids,.mk vk vn vs vks⟩=⟨eB (rows.map (dO name)),false⟩:=by rw[hseq,hro]
   rw[hseq2];generalize rows.map (dO name)=mv at hS ⊢;generalize eB mv=sv at hS ⊢;refine Rr ?_;refine aE.pre bB [(0,0),(1,1),(2,2),(3,3)] (mem':=[(0,.row 225 2 (encLs bs)),(1,.row 57 12 [cN ⟨kind,name,lo,hi,ws,ls,vals,kids,.mk vk vn vs vks⟩]),(2,.row 225 2 [.agg [.nsl,.bool false]]),(3,.row 53 1 (mA rows))]) (args':=[.il 4 (aS mv)]) rfl
    ⟨aK 0 (encLs_nn bs),aK 1 (.cons (aW _) .nil),aK 2 cZ,aK 3 (iQ _),trivial⟩ (.cons (.fz' rfl rfl (by rw[aB];omega) (by rw[Ub];exact UB (by rw[aB];omega)) cZ) .nil) ?_
   refine hS.go ?_;refine Rr ?_;exact bJ (r':=k7 ⟨sv,false⟩) (n':=1) (m':=[(0,.row 225 2 (encLs bs))]) [(0,0)] rfl ⟨aK 0 (encLs_nn bs),trivial⟩ (.same _ (lZ ⟨sv,false⟩)) ⟨rfl,rfl⟩
set_option maxHeartbeats 8000000
theorem Le(x:Nd)(bs:List iB)(h3:x.kind=3)(hname:x.name.length<=4294967296)(hkl:x.kids.length<=65536)(hk:∀(j:Nat) (k:Int),x.kids[j]? = some k->0<=k/\k<bs.length)(hb:∀b∈bs,b.vals.length<=1024/\∀v∈b.vals,g5 v) :
  aE prog [] 191 [cN x,.sl 0 0 bs.length] [(0,.row 225 2 (encLs bs))] 1 fun r m _=>r=k7 (dA x bs)/\m=[(0,.row 225 2 (encLs bs))]:=by
 have hS:=S5 x bs hname hkl hk hb;have e:dA x bs=pL bs x:=by unfold dA;rw[T5 (by omega),T5 (by omega),T7 h3]
 rw[e];generalize pL bs x=q at hS ⊢;obtain⟨sv,sm⟩:=q;have hnn:=aW x;obtain⟨kind,name,lo,hi,ws,ls,vals,kids,⟨vk,vn,vs,vks⟩⟩:=x;simp only at h3;subst h3;refine aG bB func191 rfl ?_;refine Rr ?_;refine aE.use1 bB hS 0 rfl (encLs_nn bs) (.cons (.same _ hnn) (.cons (.sl 0 0 0 _ rfl) .nil)) ?_;rintro r m n ⟨rfl,rfl⟩;refine⟨_,rfl,lZ _,encLs_nn bs, ?_⟩;refine Rr ?_;exact bJ (r':=k7 ⟨sv,sm⟩) (n':=1) (m':=[(0,.row 225 2 (encLs bs))]) [(0,0)] rfl ⟨aK 0 (encLs_nn bs),trivial⟩ (.same _ (lZ ⟨sv,sm⟩)) ⟨rfl,rfl⟩
theorem Pz(i:Nat)(x:Nd)(bs:List iB)(hx:iU i x)(hl:i=bs.length)(hb:EQ bs) :
  aE prog [] 191 [cN x,.sl 0 0 bs.length] [(0,.row 225 2 (encLs bs))] 1 fun r m _=>r=k7 (dA x bs)/\m=[(0,.row 225 2 (encLs bs))]:=by
 subst hl;have hk:=hx.kids;have hn:=cT hx.num;rcases(show x.kind=0∨x.kind=1∨x.kind=2∨x.kind=3∨x.kind=4 by have:=hx.kind;omega) with h|h|h|h|h
 ·exact Kc x bs h
 ·exact ID x bs h hn.2.1 hn.1 hn.2.2.1 hn.2.2.2
 ·exact Jh x bs h hx.klen hk hb
 ·exact Le x bs h hx.ok.name hx.klen hk hb
 ·exact KX x bs h hx.klen hk hb
abbrev tM(ns:List Nd):aN:=[(0,.row 57 12 (bD ns))]
theorem C7{l:List Nd}{k n:Nat}(h:k<l.length)(hn:l.length=n):∃x,l[k]? = some x/\l[k]=x/\(bD l)[0+(k:Int).toNat]? = some (cN x)/\Nat.blt (k:Int).toNat n=true:=
 ⟨l[k],Ty h,rfl,by simp[lG,Ty h],T8 (by simp;omega)⟩
theorem QW(ns:List Nd)(n:Nat)(hn:n<=ns.length)(hl:ns.length<=100000)(hg:∀(i:Nat) (x:Nd),i<n->ns[i]? = some x->iU i x) :
  aE prog [] 127 [.agg [.sl 0 0 ns.length],.int .i64 n] (tM ns) 1 fun r m k=>r = .sl 1 0 n/\m=[(0,.row 57 12 (bD ns)),(1,.row 225 2 (encLs (aL (ns.take n))))]/\k=2:=by
 refine aG bB func127 rfl ?_;refine Rr ?_;refine bA.ph 225 2 ?_;refine bA.at bB (fun i:Nat=>i<=n)
  (fun i=>⟨[(1,.int .i64 n),(2,.ptr 1 0 0),(5,.sl 2 0 i),(6,.int .i64 i)],[(0,.row 57 12 (bD ns)),(1,.row 25 1 [.agg [.sl 0 0 ns.length]]),(2,.row 225 2 (encLs (aL (ns.take i))))],3,23⟩)
  (fun i=>n-i) 0 [(0,0),(1,1),(2,2)] (by simp)
  (aF _ rfl ⟨aK 0 (aX _),⟨1,_,rfl,rfl,.cons (.agg (.cons (.sl 0 0 0 _ rfl) .nil)) .nil⟩,aK 2 .nil,trivial⟩ ⟨aJ,aI,⟨_,rfl,.nslk 2 2 _ rfl rfl⟩,aJ,trivial⟩) ?_
 intro i hi;refine Rr ?_;refine aD (fun h=>?_) (fun h=>?_)
 ·have hin:i<n:=by simp at h;omega
  obtain⟨x,hx1,hx2,ex,bx⟩:=C7 (l:=ns) (k:=i) (n:=ns.length) (by omega) rfl;have hgx:=hg i x hin hx1;have htl:(aL (ns.take i)).length=i:=by rw[dL];simp;omega
  have hL:=Pz i x (aL (ns.take i)) hgx htl.symm (iO _ fun j y hy=>by
   have hj:=(T0.1 hy).1;rw[Ua,T7 (by simp at hj;omega)] at hy;exact hg j y (by simp at hj;omega) hy)
  have hnx:aL (ns.take (i+1))=aL (ns.take i)++[dA x (aL (ns.take i))]:=by rw[T9 (by omega),hx2,gR]
  have hxn:=aW x;have hxc:(cN x).cells.length=12:=by obtain⟨kind,name,lo,hi,ws,ls,vals,kids,⟨vk,vn,vs,vks⟩⟩:=x;rfl
  generalize dA x (aL (ns.take i))=nl at hL hnx;obtain⟨bs,hbs⟩:∃bs,bs=aL (ns.take i):=⟨_,rfl⟩
  rw[←hbs] at hL hnx htl ⊢;obtain⟨kind,name,lo,hi,ws,ls,vals,kids,⟨vk,vn,vs,vks⟩⟩:=x;refine Rr ?_;repeat((first|refine aM bx ?_|refine aC ex ?_);refine Rr ?_)
  refine aE.use1 bB hL 2 rfl (encLs_nn bs) (.cons (.same _ hxn) (.cons (.slE rfl htl.symm) .nil)) ?_;rintro r m k ⟨rfl,rfl⟩;refine⟨_,rfl,lZ _,encLs_nn bs, ?_⟩;refine Rr ?_;refine aM (bT rfl rfl (by rw[encLs_length,htl]) (by simp;omega)) ?_;refine Rr ?_;exact .mk (i+1) [(0,0),(1,1),(4,2)] (by omega)
   (aF _ rfl ⟨aK 0 (aX _),⟨1,_,rfl,rfl,.cons (.agg (.cons (.sl 0 0 0 _ rfl) .nil)) .nil⟩,⟨4,_,rfl,rfl,.eq (encLs_nn _) (by rw[hnx];simp[encLs])⟩,trivial⟩ ⟨aJ,aI,⟨_,rfl,.slE rfl (by simp)⟩,⟨_,rfl,.wo⟩,trivial⟩) (by omega)
 ·have hin:i=n:=by simp at h;omega
  subst hin;refine Rr ?_;exact bJ (r':=.sl 1 0 i) (n':=2) (m':=[(0,.row 57 12 (bD ns)),(1,.row 225 2 (encLs (aL (ns.take i))))]) [(0,0),(2,1)] rfl ⟨aK 0 (aX _),aK 2 (encLs_nn _),trivial⟩ (.sl 2 1 0 _ rfl) ⟨rfl,rfl,rfl⟩
set_option maxHeartbeats 8000000
theorem EN{ns:List Nd}{i:Nat}(hi:i<ns.length):(aL (ns.take (i+1)))[i]? = some (dB (aL (ns.take (i+1))) i):=by
 have:i<(aL (ns.take (i+1))).length:=by rw[dL];simp;omega
 unfold dB;rw[T1,T4,Ty this];rfl
theorem Iv(ns:List Nd)(i:Nat)(hi:i<ns.length)(hl:ns.length<=100000)(hg:∀(j:Nat) (x:Nd),j<i+1->ns[j]? = some x->iU j x) :
  aE prog [] 69 [.agg [.sl 0 0 ns.length],.int .i64 i] (tM ns) 1 fun r m _=>r = .tup [.il 4 (aS (dB (aL (ns.take (i+1))) i).vals),.bool (!(dB (aL (ns.take (i+1))) i).many)]/\m=tM ns:=by
 have hL:=QW ns (i+1) (by omega) hl hg;have hw:IntKind.i64.wrap ((i:Int)+1)=((i+1:Nat):Int):=w64 (by omega) ⟨by omega,by omega⟩;have hat:=EN hi;have hlen:(aL (ns.take (i+1))).length=i+1:=by rw[dL];simp;omega
 generalize dB (aL (ns.take (i+1))) i=b at hat ⊢;generalize aL (ns.take (i+1))=bs at hL hat hlen;obtain⟨bv,bm⟩:=b;have e2:(encLs bs)[0+((i:Nat):Int).toNat]? = some (k7 ⟨bv,bm⟩):=by rw[UT,T4,encLs_get,hat];rfl
 have b2:Nat.blt ((i:Nat):Int).toNat (i+1)=true:=T8 (by simp);refine aG bB func69 rfl ?_;refine Rr ?_;rw[hw];refine aE.useN bB [(0,0)] hL rfl (.cons (.agg' (.cons (.sl 0 0 0 _ rfl) .nil)) (.s .nil)) ⟨aK 0 (aX _),trivial⟩ rfl ?_;rintro r m k ⟨rfl,rfl,rfl⟩;refine⟨[(0,0),(1,2)],.sl 2 0 (i+1),[(0,.row 57 12 (bD ns)),(2,.row 225 2 (encLs bs))],3,.sl 1 2 0 _ rfl,⟨aK 0 (aX _),aK 1 (encLs_nn _),trivial⟩,rfl, ?_⟩;refine Rr ?_;repeat((first|refine bH ?_|refine aM b2 ?_|refine aC e2 ?_);refine Rr ?_)
 exact bJ (r':=.tup [.il 4 (aS bv),.bool (!bm)]) (n':=1) (m':=tM ns) [(0,0)] rfl ⟨aK 0 (aX _),trivial⟩ (.same _ nn) ⟨rfl,rfl⟩
theorem QR(ns:List Nd)(x:Nd)(i:Nat)(hi:i<=ns.length)(hl:ns.length<=100000)(hg:∀(j:Nat) (x:Nd),j<i->ns[j]? = some x->iU j x)(hx:rJ x)(hk0:0<x.kids.length)(hk:∀(j:Nat) (k:Int),x.kids[j]? = some k->0<=k/\k<i) :
  aE prog [] 34 [.agg [.sl 0 0 ns.length],cN x] (tM ns) 1 fun r m _=>r = .int .i64 (fZ ns x)/\m=tM ns:=by
 obtain⟨q,hq⟩:∃q,x.kids[0]? = some q:=⟨x.kids[0],Ty hk0⟩
 obtain⟨q1,q2⟩:=hk 0 q hq;obtain⟨qn,rfl⟩:=UH q1;have hgd:x.kids.getD 0 0=qn:=by rw[T1,hq];rfl
 have hV:=Iv ns qn (by omega) hl fun j y hj hy=>hg j y (by omega) hy
 have hbl:=pI (iO (ns.take (qn+1)) fun j y hy=>hg j y (by have:=(fO hy).2;omega) (fO hy).1) qn;have hbe:fZ ns x=if (dB (aL (ns.take (qn+1))) qn).many=true then 4 else if cL (dB (aL (ns.take (qn+1))) qn).vals x.values=true then 0 else 1:=by
  unfold fZ;simp only[hgd,T4]
 rw[hbe];generalize dB (aL (ns.take (qn+1))) qn=b at hV hbl ⊢;obtain⟨bv,bm⟩:=b;simp only at hV hbl ⊢;have hS:=Iy bv x.values (by omega) hbl.2;generalize cL bv x.values=sm at hS ⊢;have ek:(bG x.kids)[(0:Int).toNat]? = some (.int .i64 (qn:Int)):=by rw[bL];simp[hq]
 obtain⟨kind,name,lo,hi',ws,ls,vals,kids,⟨vk,vn,vs,vks⟩⟩:=x;simp only at hS ek;refine aG bB func34 rfl ?_;refine Rr ?_;repeat((first|refine bH ?_|refine aC ek ?_);refine Rr ?_)
 refine aE.use1 bB hV 0 rfl (aX _) (.cons (.agg' (.cons (.sl 0 0 0 _ rfl) .nil)) (.s .nil)) ?_;rintro r m k ⟨rfl,rfl⟩;refine⟨_,rfl,nn,aX _, ?_⟩;cases bm with
 | true=>
  refine Rr ?_;repeat((first|refine bH ?_|refine aC ek ?_);refine Rr ?_)
  exact bJ (r':=.int .i64 4) (n':=1) (m':=tM ns) [(0,0)] rfl ⟨aK 0 (aX _),trivial⟩ (.same _ nn) ⟨rfl,rfl⟩
 | false=>
  refine Rr ?_;repeat((first|refine bH ?_|refine aC ek ?_);refine Rr ?_)
  refine hS.go ?_;cases sm with
  | true=>
   refine Rr ?_;exact bJ (r':=.int .i64 0) (n':=1) (m':=tM ns) [(0,0)] rfl ⟨aK 0 (aX _),trivial⟩ (.same _ nn) ⟨rfl,rfl⟩
  | false=>
   refine Rr ?_;exact bJ (r':=.int .i64 1) (n':=1) (m':=tM ns) [(0,0)] rfl ⟨aK 0 (aX _),trivial⟩ (.same _ nn) ⟨rfl,rfl⟩
theorem RD(ns:List Nd)(hl:ns.length<=100000)(ho:∀x∈ns,rJ x/\x.values.length<=4294967290) :
  aE prog [] 8 [.agg [.sl 0 0 ns.length]] (tM ns) 1 fun r m _=>r = .int .i64 (dD ns)/\m=tM ns:=by
 have hfin:∀(e:Int) (mem:aN) (nx:Nat),lk mem 0=some (.row 57 12 (bD ns))->e=dD ns->oH 1 (fun r m (_:Nat)=>r = .int .i64 (dD ns)/\m=tM ns) (.int .i64 e) mem nx:=by
  intro e mem nx h0 he;exact bJ (r':=.int .i64 e) (n':=1) (m':=tM ns) [(0,0)] rfl ⟨⟨0,_,rfl,h0,.same (aX _)⟩,trivial⟩ (.same _ nn) ⟨by rw[he],rfl⟩
 refine aG bB func8 rfl ?_;refine Rr ?_;refine aD (fun h=>?_) (fun h=>?_)
 ·have h1:4096<ns.length:=by simp at h;omega
  refine Rr ?_;exact hfin _ _ _ rfl (by unfold dD;rw[T7 h1])
 ·have h1:¬4096<ns.length:=by simp at h;omega
  have hvt:dD ns=cD [] ns:=by unfold dD;rw[T5 h1]
  refine Rr ?_;refine bA.ph 3 1 ?_;refine bA.ph 3 1 ?_;refine bA.at bB (fun i:Nat=>i<=ns.length/\cD [] (ns.take i)=0)
   (fun i=>⟨[(1,.ptr 1 0 0),(3,.sl 2 0 i),(4,.sl 3 0 i),(5,.int .i64 i)],[(0,.row 57 12 (bD ns)),(1,.row 25 1 [.agg [.sl 0 0 ns.length]]),(2,.row 3 1 (bG (bQ (ns.take i)))),(3,.row 3 1 (bG (cQ (ns.take i))))],4,57⟩)
   (fun i=>ns.length-i) 0 [(0,0),(1,1),(2,2),(3,3)] ⟨by simp,by simp[cD]⟩
   (aF _ rfl ⟨aK 0 (aX _),⟨1,_,rfl,rfl,.cons (.agg (.cons (.sl 0 0 0 _ rfl) .nil)) .nil⟩,aK 2 .nil,aK 3 .nil,trivial⟩ ⟨aI,⟨_,rfl,.nslk 2 2 _ rfl rfl⟩,⟨_,rfl,.nslk 3 3 _ rfl rfl⟩,aJ,trivial⟩) ?_
  rintro i ⟨hi,hv0⟩;refine Rr ?_;refine aD (fun h=>?_) (fun h=>?_)
  ·have hin:i<ns.length:=by simp at h;omega
   obtain⟨x,hx1,hx2,ex,bx⟩:=C7 (l:=ns) (k:=i) (n:=ns.length) hin rfl;have hxm:=UA hx1;obtain⟨hxo,hxv⟩:=ho x hxm;have hsplit:ns=ns.take i++x::ns.drop (i+1):=by rw[←hx2,←UU hin,Ug]
   have hti:(ns.take i).length=i:=by simp;omega
   have htn:ns.take (i+1)=ns.take i++[x]:=by rw[T9 hin,hx2]
   have hgood:=lM (ns.take i) (fun y hy=>(ho y (Uc hy)).1) hv0;obtain⟨hls,hss⟩:=jM (ns.take i) hv0;have hll:(bQ (ns.take i)).length=i:=by rw[kW,hti]
   have hsl:(cQ (ns.take i)).length=i:=by rw[kO,hti]
   have hstop:=fun hs=>AZ (l:=ns.take i) (r:=ns.drop (i+1)) (x:=x) hv0 hs
   rw[←hsplit] at hstop;have hgo:=fR [] (ns.take i) x hv0;rw[Um,←htn] at hgo;have hN:=SO i x (by omega) hxo hxv;have hlt:=lF (ns.take i) x;have hst:=lP (ns.take i) x;rw[←htn] at hlt hst;have hse:gM (ns.take i) (bQ (ns.take i)) (cQ (ns.take i)) x=if fF i x≠0 then fF i x else if 256<gZ (bQ (ns.take i)) x∨1024<kY (cQ (ns.take i)) x then 4 else if x.kind=4 then fZ (ns.take i) x else 0:=by
    unfold gM;rw[hti]
   have hbnd:(0<x.kids.length/\∀(j:Nat) (k:Int),x.kids[j]? = some k->0<=k/\k<i)->fZ (ns.take i) x=fZ ns x:=by
    rintro⟨h0,hk⟩;obtain⟨q,hq⟩:∃q,x.kids[0]? = some q:=⟨x.kids[0],Ty h0⟩
    obtain⟨q1,q2⟩:=hk 0 q hq;have hgd:x.kids.getD 0 0=q:=by rw[T1,hq];rfl
    unfold fZ;simp only[hgd];rw[WF,Ve (by omega)]
   have hxn:=aW x;obtain⟨ne,hne⟩:∃ne,ne=fF i x:=⟨_,rfl⟩
   rw[←hne] at hN hse;by_cases n0:ne=0
   ·subst n0;have hok:=lQ hne.symm;have h4:4<=x.kind->0<x.kids.length:=fun h=>by have:=hok.bind (by have:=hok.kind;omega);omega
    have hL:=MY (bQ (ns.take i)) x hxo (by omega) hls (by rw[hll];exact hok.kids) h4 hok.kind;have hS:=QQ (cQ (ns.take i)) x hxo (by omega) hss (by rw[hsl];exact hok.kids) h4 hok.kind;have hB:=QR ns x i (by omega) hl (fun j y hj hy=>hgood j y (by rw[Ua,T7 hj];exact hy)) hxo;rw[T5 (by simp)] at hse;generalize bQ (ns.take i)=lsI at hL hll hlt hse hstop hgo hls ⊢;generalize cQ (ns.take i)=ssI at hS hsl hst hse hstop hgo hss ⊢;generalize gZ lsI x=ln at hL hlt hse;generalize kY ssI x=sn at hS hst hse;obtain⟨kind,name,lo,hi',ws,ls,vals,kids,⟨vk,vn,vs,vks⟩⟩:=x;simp only at hse h4 hB hbnd hok;refine Rr ?_;repeat((first|refine aM bx ?_|refine aC ex ?_);refine Rr ?_)
    refine hN.go ?_ (.cons (.int _ _) (.cons hxn .nil));refine Rr ?_;refine aE.useApp bB hL 2 rfl (a8 _) (.cons (.slE rfl hll.symm) (.cons (.same _ hxn) .nil)) ?_;rintro len ys ⟨rfl,rfl⟩;refine Rr ?_;refine aE.useApp bB hS 3 rfl (a8 _) (.cons (.slE rfl hsl.symm) (.cons (.same _ hxn) .nil)) ?_;rintro len ys ⟨rfl,rfl⟩;have el:(bG (lsI++[ln]))[0+((i:Nat):Int).toNat]? = some (.int .i64 ln):=by simp[bG,hll]
    have bl:Nat.blt ((i:Nat):Int).toNat (lsI.length+1)=true:=T8 (by simp;omega);have es:(bG (ssI++[sn]))[0+((i:Nat):Int).toNat]? = some (.int .i64 sn):=by simp[bG,hsl]
    have bs':Nat.blt ((i:Nat):Int).toNat (ssI.length+1)=true:=T8 (by simp;omega);refine Rr ?_;repeat((first|refine aM bl ?_|refine aC el ?_);refine Rr ?_)
    refine aD (fun h2=>?_) (fun h2=>?_)
    ·have h3:256<ln:=by simpa using h2
     rw[h2];rw[T7 (.inl h3)] at hse;have hres:=hstop (by rw[hse];omega);refine Rr ?_;exact hfin _ _ _ rfl (by rw[hvt,hres,hse])
    ·have h3:¬256<ln:=by simpa using h2
     rw[h2];refine Rr ?_;repeat((first|refine aM bs' ?_|refine aC es ?_);refine Rr ?_)
     refine aD (fun h4'=>?_) (fun h4'=>?_)
     ·have h5:1024<sn:=by simpa using h4'
      rw[h4'];rw[T7 (.inr h5)] at hse;have hres:=hstop (by rw[hse];omega);refine Rr ?_;exact hfin _ _ _ rfl (by rw[hvt,hres,hse])
     ·have h5:¬1024<sn:=by simpa using h4'
      rw[h4'];rw[T5 (by omega)] at hse;by_cases k4:kind=4
      ·rw[T7 k4] at hse;have h40:=h4 (by omega);have hB:=hB h40 hok.kids;rw[hbnd ⟨h40,hok.kids⟩] at hse;generalize fZ ns ⟨kind,name,lo,hi',ws,ls,vals,kids,.mk vk vn vs vks⟩=be at hB hse;subst k4;refine Rr ?_;refine aE.use1 bB hB 0 rfl (aX _) (.cons (.agg' (.cons (.sl 0 0 0 _ rfl) .nil)) (.cons (.same _ hxn) .nil)) ?_;rintro r m k ⟨rfl,rfl⟩;refine⟨_,rfl,nn,aX _, ?_⟩;by_cases be0:be=0
       ·subst be0;rw[hse] at hgo;refine Rr ?_;exact .mk (i+1) [(0,0),(1,1),(5,2),(6,3)] ⟨by omega,hgo⟩
         (aF _ rfl ⟨aK 0 (aX _),⟨1,_,rfl,rfl,.cons (.agg (.cons (.sl 0 0 0 _ rfl) .nil)) .nil⟩,⟨5,_,rfl,rfl,.eq (a8 _) (by rw[hlt])⟩,⟨6,_,rfl,rfl,.eq (a8 _) (by rw[hst])⟩,trivial⟩ ⟨aI,⟨_,rfl,.slE rfl (by rw[hll])⟩,⟨_,rfl,.slE rfl (by rw[hsl])⟩,⟨_,rfl,.wo⟩,trivial⟩) (by omega)
       ·have d5:(be != 0)=true:=by simpa using be0
        have hres:=hstop (by rw[hse];exact be0);refine Rr ?_;rw[d5];refine Rr ?_;exact hfin _ _ _ rfl (by rw[hvt,hres,hse])
      ·rw[T5 k4] at hse;have d4:(kind == 4)=false:=by simpa using k4
       rw[hse] at hgo;refine Rr ?_;rw[d4];refine Rr ?_;exact .mk (i+1) [(0,0),(1,1),(5,2),(6,3)] ⟨by omega,hgo⟩
        (aF _ rfl ⟨aK 0 (aX _),⟨1,_,rfl,rfl,.cons (.agg (.cons (.sl 0 0 0 _ rfl) .nil)) .nil⟩,⟨5,_,rfl,rfl,.eq (a8 _) (by rw[hlt])⟩,⟨6,_,rfl,rfl,.eq (a8 _) (by rw[hst])⟩,trivial⟩ ⟨aI,⟨_,rfl,.slE rfl (by rw[hll])⟩,⟨_,rfl,.slE rfl (by rw[hsl])⟩,⟨_,rfl,.wo⟩,trivial⟩) (by omega)
   ·have d1:(ne != 0)=true:=by simpa using n0
    have hse':=hse;rw[T7 n0] at hse';have hres:=hstop (by rw[hse'];exact n0);rw[hse'] at hres;obtain⟨kind,name,lo,hi',ws,ls,vals,kids,⟨vk,vn,vs,vks⟩⟩:=x;refine Rr ?_;repeat((first|refine aM bx ?_|refine aC ex ?_);refine Rr ?_)
    refine hN.go ?_ (.cons (.int _ _) (.cons hxn .nil));refine Rr ?_;rw[d1];refine Rr ?_;exact hfin _ _ _ rfl (by rw[hvt,hres])
  ·have hin:i=ns.length:=by simp at h;omega
   subst hin;rw[UM] at hv0;refine Rr ?_;exact hfin _ _ _ rfl (by rw[hvt,hv0])
set_option maxHeartbeats 8000000
def zV:aT:=.mk 0 0 [] []
def GZ(v:aT):Nd:=⟨0,[],0,0,[],[],[],[],v⟩
def AD(ns:List Nd)(l:List Int)(i k:Int):Nd:=
 let b:=dB (aL (ns.take ((kidI l i 0).toNat+1))) (kidI l i 0)
 if b.many=true∨6<b.vals.length then GZ (u6 k) else⟨4,[],0,0,[],[],b.vals,kidI l i 0::(List.range b.vals.length).map fun j:Nat=>kidI l i ((j:Int)+1),zV⟩
theorem nZ{l:List Int}{i j:Int}(hi:1<=i):0<=kidI l i j/\kidI l i j<i:=by
 unfold kidI;have hp:=kC (l:=l) (i:=3*i+j+2) (most:=1000000) (by omega);split
 ·exact⟨Vo _ (Vp hp.1 (by omega)),VZ _ (by omega)⟩
 ·have h0:0<=((kX l (3*i+j+2) 1000000).tdiv 3).tmod 3:=Vo _ (Vp hp.1 (by omega));omega
theorem Rh(ns:List Nd)(l:List Int)(k:Int)(hl:∀x∈l,i64 x)(h1:1<=ns.length)(h2:ns.length<=1000)(hk0:0<=k)(hk1:k<=1000000)(hg:∀(j:Nat) (x:Nd),ns[j]? = some x->iU j x) :
    aE prog [] 29 [.agg [.sl 0 0 ns.length],.il 1 (bG l),.int .i64 ns.length,.int .i64 k] (tM ns) 1 fun r m _=>r=cN (AD ns l ns.length k)/\m=tM ns:=by
  have hfin:∀(x:Nd) (r:AV) (mem:aN) (nx:Nat),lk mem 0=some (.row 57 12 (bD ns))->Cv mem [(0,0)] r (cN x)->x=AD ns l ns.length k->oH 1 (fun r m (_:Nat)=>r=cN (AD ns l ns.length k)/\m=tM ns) r mem nx:=by
    intro x r mem nx h0 hr hx;exact bJ (r':=cN x) (n':=1) (m':=tM ns) [(0,0)] rfl ⟨⟨0,_,rfl,h0,.same (aX _)⟩,trivial⟩ hr ⟨by rw[hx],rfl⟩
  have hK0:=Md l ns.length 0 hl (by omega) (by omega) (by omega) (by omega);obtain⟨q1,q2⟩:=nZ (l:=l) (i:=(ns.length:Int)) (j:=0) (by omega);obtain⟨q,hq⟩:=UH q1;have hb:AD ns l ns.length k=if (dB (aL (ns.take (q+1))) q).many=true∨6<(dB (aL (ns.take (q+1))) q).vals.length then GZ (u6 k) else⟨4,[],0,0,[],[],(dB (aL (ns.take (q+1))) q).vals,(q:Int)::(List.range (dB (aL (ns.take (q+1))) q).vals.length).map fun j:Nat=>kidI l ns.length ((j:Int)+1),zV⟩:=by
    unfold AD;simp only[hq,T4]
  have hV:=Iv ns q (by omega) (by omega) fun j y _ hy=>hg j y hy
  rw[hq] at hK0;simp only[hb] at hfin ⊢;generalize dB (aL (ns.take (q+1))) q=b at hV hfin ⊢;obtain⟨bv,bm⟩:=b;simp only at hV hfin ⊢;have hLf:=Po k hk0 hk1;obtain⟨⟨f1,f2,f3,f4⟩,hf⟩:∃f,f=u6 k:=⟨_,rfl⟩
  rw[←hf] at hLf hfin ⊢;have hleaf:∀(mem:aN) (nx:Nat),lk mem 0=some (.row 57 12 (bD ns))->(bm=true∨6<bv.length)->oH 1 (fun r m (_:Nat)=>r=cN (if bm=true∨6<bv.length then GZ (.mk f1 f2 f3 f4) else⟨4,[],0,0,[],[],bv,(q:Int)::(List.range bv.length).map fun j:Nat=>kidI l ns.length ((j:Int)+1),zV⟩)/\m=tM ns)
      (.agg [.int .i64 0,.str [],.int .i64 0,.int .i64 0,.nsl,.nsl,.nsl,.nsl,.int .i64 f1,.int .i64 f2,.str f3,.il 4 (aS f4)]) mem nx:=by
    intro mem nx h0 hc;refine hfin (GZ (.mk f1 f2 f3 f4)) _ mem nx h0 ?_ (by rw[T7 hc]);exact .agg' (.s (.s (.s (.s (.cons (.nil 1) (.cons (.nil 1) (.cons (.nil 4) (.cons (.nil 1) (.s (.s (.s (.s .nil))))))))))))
  refine aG bB func29 rfl ?_;refine Rr ?_;refine hK0.go ?_;refine Rr ?_;refine aE.use1 bB hV 0 rfl (aX _) (.cons (.agg' (.cons (.sl 0 0 0 _ rfl) .nil)) (.s .nil)) ?_;rintro r m k' ⟨rfl,rfl⟩;refine⟨_,rfl,nn,aX _, ?_⟩;cases bm with
  | true=>
    refine Rr ?_;refine hLf.go ?_;refine Rr ?_;exact hleaf _ _ rfl (.inl rfl)
  | false=>
    refine Rr ?_;refine aD (fun h=>?_) (fun h=>?_)
    · have h6:6<bv.length:=by rw[aB] at h;simp at h;omega
      rw[h];refine Rr ?_;refine hLf.go ?_;refine Rr ?_;exact hleaf _ _ rfl (.inr h6)
    · have h6:¬6<bv.length:=by rw[aB] at h;simp at h;omega
      rw[h];refine Rr ?_;refine bA.at bB (fun j:Nat=>j<=bv.length)
        (fun j=>⟨[(1,.il 1 (bG l)),(2,.int .i64 ns.length),(8,.ptr 2 0 0),(10,.il 4 (aS bv)),(12,.ptr 3 0 0),(13,.int .i64 j)],
          [(0,.row 57 12 (bD ns)),(2,.row 57 12 [.agg [.int .i64 0,.str [],.int .i64 0,.int .i64 0,.nsl,.nsl,.nsl,.nsl,.int .i64 0,.int .i64 0,.str [],.nsl]]),
           (3,.row 57 12 [.agg [.int .i64 4,.str [],.int .i64 0,.int .i64 0,.nsl,.nsl,.il 4 (aS bv),.sl 4 0 (j+1),.int .i64 0,.int .i64 0,.str [],.nsl]]),(4,.row 3 1 (bG ((q:Int)::(List.range j).map fun j:Nat=>kidI l ns.length ((j:Int)+1))))],5,54⟩)
        (fun j=>bv.length-j) 0 [(0,0),(2,2),(4,3),(3,4)] (by simp)
        (aF _ rfl ⟨aK 0 (aX _),aK 2 cZ,⟨4,_,rfl,rfl,.cons (.agg (.s (.s (.s (.s (.s (.s (.s (.cons (.sl 3 4 0 1 rfl) (.s (.s (.s (.s .nil))))))))))))) .nil⟩,⟨3,_,rfl,rfl,.eq (a8 _) rfl⟩,trivial⟩
          ⟨aJ,aJ,aI,aJ,aI,aJ,trivial⟩) ?_
      intro j hj;refine Rr ?_;refine aD (fun h=>?_) (fun h=>?_)
      · have hjl:j<bv.length:=GE h
        have hw:IntKind.i64.wrap ((j:Int)+1)=(j:Int)+1:=bE ⟨by omega,by omega⟩;have hKj:=Md l ns.length ((j:Int)+1) hl (by omega) (by omega) (by omega) (by omega);refine Rr ?_;rw[hw];refine hKj.go ?_;refine Rt ?_;refine aM (bT rfl rfl (by rw[aH];simp) (by simp;omega)) ?_;refine Rt ?_;exact .mk (j+1) [(0,0),(2,2),(3,3),(16,4)] (by omega)
          (aF _ rfl ⟨aK 0 (aX _),aK 2 cZ,⟨3,_,rfl,rfl,.cons (.agg (.s (.s (.s (.s (.s (.s (.s (.cons (.slE rfl (by simp)) (.s (.s (.s (.s .nil))))))))))))) .nil⟩,⟨16,_,rfl,rfl,.eq (a8 _) (by rw[Wp];simp[bG])⟩,trivial⟩
            ⟨aJ,aJ,aI,aJ,aI,⟨_,rfl,.wo⟩,trivial⟩) (by omega)
      · have hje:j=bv.length:=by have:=G5 h;omega
        subst hje;refine Rr ?_;refine hfin ⟨4,[],0,0,[],[],bv,(q:Int)::(List.range bv.length).map fun j:Nat=>kidI l ns.length ((j:Int)+1),zV⟩ _ _ _ rfl ?_ (by rw[T5 (by simp;omega)]);exact .agg' (.s (.s (.s (.s (.cons (.nil 1) (.cons (.nil 1) (.s (.cons (.fz' (id:=4) rfl rfl (by rw[aH];simp) (by rw[Ub];exact UB (by rw[aH];simp)) (a8 _)) (.s (.s (.s (.cons (.nil 4) .nil))))))))))))
set_option maxHeartbeats 8000000
theorem pC{α:Type}{p:α->Prop}{l:List α}{y:α}(h:∀x∈l,p x)(hy:p y):∀x∈l++[y],p x:=fun x hx=>by
 rcases UI.1 hx with hx|hx
 ·exact h x hx
 ·simp at hx;rw[hx];exact hy
theorem Jf{ns:List Nd}(hT:jQ ns)(h1:1<=ns.length)(h2:ns.length<=1000){l:List Int}{k:Int}(hk:0<=k):Lr (AD ns l ns.length k):=by
 have z0:i64 0:=⟨by omega,by omega⟩
 unfold AD;simp only;split
 ·have:=F2 k hk;exact mT z0 (by simp) z0 z0 (by simp) (by simp) (by simp) (by simp) (by simp) (by simp) (by simp) (by simp) this.1 (by omega)
 ·rename_i hc;rw[not_or] at hc;have hb:=fun j=>nZ (l:=l) (i:=(ns.length:Int)) (j:=j) (by omega)
  obtain⟨q0,q1⟩:=hb 0;have hv:cD [] (ns.take ((kidI l ns.length 0).toNat+1))=0:=iK (r:=ns.drop ((kidI l ns.length 0).toNat+1)) (by rw[Ug];exact hT.valid);have ho:∀x∈ns.take ((kidI l ns.length 0).toNat+1),rJ x:=fun x hx=>hT.ok x (Uc hx)
  have hs:=Fy _ ho hv (kidI l ns.length 0) q0 (by simp;omega);have hg:=pI (iO _ (lM _ ho hv)) (kidI l ns.length 0);refine mT ⟨by omega,by omega⟩ (by simp) z0 z0 (by simp) (by simp) (by simp) (by simp) (by omega) (fun v hv=>⟨hg.2 v hv,by have:=hs v hv;omega⟩) (by simp;omega) (fun w hw=>?_) (iT z0 z0) (by simp[zV,aY,bO]);rcases T6.1 hw with rfl|hw
  ·exact⟨by omega,by omega⟩
  ·obtain⟨j,_,rfl⟩:=US.1 hw;have:=hb ((j:Int)+1);exact⟨by omega,by omega⟩
theorem eD.joinAt{P:Program}{Γ:List (Nat × AV)}{B:Nat}{α:Type}{rest:Code}{Q:Exit->St->Prop}{G:Prop}(hΓ:∀p∈Γ,NN p.2)(R:α->Prop)(J:α->St)
  (h1:(∀(a:α) (s:St) (σ:List (Nat × Nat)),R a->Conv B σ s (J a)->eD P Γ B rest s Q)->G) (h2:∀a,R a->eD P Γ B rest (J a) Q):G:=h1 fun a s σ hr hc=>eD.conv hΓ hc (h2 a hr)
theorem Su(l:List Int)(hl:∀x∈l,i64 x) :
  aE prog [] 6 [.il 1 (bG l)] [] 0 fun r m n=>∃ns:List Nd,jQ ns/\ns.length<=14/\r = .agg [.sl 0 0 ns.length]/\m=tM ns/\n=1:=by
 have z0:i64 0:=⟨by omega,by omega⟩
 have hP0:=Gr l 0 15 hl (by omega);obtain⟨n0,n1⟩:=kC (l:=l) (i:=0) (most:=15) (by omega);generalize kX l 0 15=nn0 at hP0 n0 n1;obtain⟨n,rfl⟩:=UH n0;refine aG bB func6 rfl ?_;refine Rr ?_;refine hP0.go ?_;refine Rr ?_;refine bA.ph 57 12 ?_;refine bA.at bB (fun ns:List Nd=>jQ ns/\ns.length<=n) (fun ns=>⟨[(0,.il 1 (bG l)),(2,.ptr 0 0 0),(3,.ptr 1 0 0),(4,.int .i64 n),(5,.int .i64 ns.length)],[(0,.row 25 1 [.agg [.nsl]]),(1,.row 25 1 [.agg [.sl 2 0 ns.length]]),(2,.row 57 12 (bD ns))],3,181⟩) (fun ns=>n-ns.length) [] [(0,0),(1,1),(2,2)] ⟨⟨by simp[cD],by simp⟩,by simp⟩
  (aF _ rfl ⟨aK 0 cZ,⟨1,_,rfl,rfl,.cons (.agg (.cons (.nslk 2 2 _ rfl rfl) .nil)) .nil⟩,aK 2 .nil,trivial⟩ ⟨aJ,aI,aI,aJ,aJ,trivial⟩) ?_
 rintro ns ⟨hT,hns⟩;refine Rr ?_;refine aD (fun h=>?_) (fun h=>?_)
 ·have hlt:ns.length<n:=by simpa using h
  have hw1:IntKind.i64.wrap (1+(ns.length:Int))=1+(ns.length:Int):=bE ⟨by omega,by omega⟩;have hPk:=Gr l (1+(ns.length:Int)) 1000000 hl (by omega);obtain⟨kk0,kk1⟩:=kC (l:=l) (i:=1+(ns.length:Int)) (most:=1000000) (by omega);generalize kX l (1+(ns.length:Int)) 1000000=kk at hPk kk0 kk1;have m8:=jK kk0 (show (0:Int)<8 by omega);have q8:=A5 kk0 (show (0:Int)<8 by omega);have q80:0<=kk.tdiv 8:=Vp kk0 (by omega);have hw8:IntKind.i64.wrap (kk.tdiv 8)=kk.tdiv 8:=bE ⟨by omega,by omega⟩;have m82:=jK q80 (show (0:Int)<2 by omega);refine Rr ?_;rw[hw1];refine hPk.go ?_
  refine' eD.joinAt (P:=prog) (B:=0) bB (fun kd:Int=>0<=kd/\kd<=4/\(2<=kd->2<=ns.length)) (fun kd=>⟨[(0,.il 1 (bG l)),(2,.ptr 0 0 0),(3,.ptr 1 0 0),(4,.int .i64 n),(5,.int .i64 ns.length),(6,.int .i64 kk),(7,.ptr 3 0 0)],[(0,.row 25 1 [.agg [.nsl]]),(1,.row 25 1 [.agg [.sl 2 0 ns.length]]),(2,.row 57 12 (bD ns)),(3,.row 57 12 [.agg [.int .i64 kd,.str [],.int .i64 0,.int .i64 0,.nsl,.nsl,.nsl,.nsl,.int .i64 0,.int .i64 0,.str [],.nsl]])],4,181⟩) (fun hJ=>?_) (fun kd hkd=>?_)
  rotate_left 2
  ·by_cases hi2:ns.length<2
   ·have d2:decide ((ns.length:Int)<2)=true:=by simp;omega
    refine Rr ?_;rw[d2];refine Rr ?_;rw[hw8];obtain⟨kd,hkd⟩:∃kd,kd=(kk.tdiv 8).tmod 2:=⟨_,rfl⟩
    rw[←hkd] at m82 ⊢;have d5:decide (kd>5)=false:=by simp;omega
    refine Rr ?_;rw[d5]
    conv=>whnf
    refine eD.many ?_
    conv=>whnf
    exact hJ kd _ [(0,0),(1,1),(2,2),(3,3)] ⟨by omega,by omega,by omega⟩ (aF _ rfl ⟨aK 0 cZ,⟨1,_,rfl,rfl,.cons (.agg (.cons (.sl 2 2 0 _ rfl) .nil)) .nil⟩,aK 2 (aX _),aK 3 cZ,trivial⟩ ⟨aJ,aI,aI,aJ,aJ,aJ,aI,trivial⟩)
   ·have d2:decide ((ns.length:Int)<2)=false:=by simp;omega
    refine Rr ?_;rw[d2];refine Rr ?_;have hkd5:(kk.tmod 8 == 5)=false∨(kk.tmod 8 == 5)=true:=by cases (kk.tmod 8 == 5)<;>simp
    rcases hkd5 with e5|e5
    ·have n5:kk.tmod 8≠5:=by simpa using e5
     obtain⟨k8,hk8⟩:∃k8,k8=kk.tmod 8:=⟨_,rfl⟩
     rw[←hk8] at e5 n5 m8 ⊢;rcases(show k8<5∨5<k8 by omega) with k5|k5
     ·have d5:decide (k8>5)=false:=by simp;omega
      rw[e5];refine Rr ?_;rw[d5]
      conv=>whnf
      refine eD.many ?_
      conv=>whnf
      exact hJ k8 _ [(0,0),(1,1),(2,2),(3,3)] ⟨by omega,by omega,by omega⟩ (aF _ rfl ⟨aK 0 cZ,⟨1,_,rfl,rfl,.cons (.agg (.cons (.sl 2 2 0 _ rfl) .nil)) .nil⟩,aK 2 (aX _),aK 3 cZ,trivial⟩ ⟨aJ,aI,aI,aJ,aJ,aJ,aI,trivial⟩)
     ·have d5:decide (k8>5)=true:=by simp;omega
      have hw4:IntKind.i64.wrap (k8-4)=k8-4:=bE ⟨by omega,by omega⟩;rw[e5];refine Rr ?_;rw[d5]
      conv=>whnf
      refine eD.many ?_
      conv=>whnf
      refine kZ.many ?_
      conv=>whnf
      rw[hw4];exact hJ (k8-4) _ [(0,0),(1,1),(2,2),(3,3)] ⟨by omega,by omega,by omega⟩ (aF _ rfl ⟨aK 0 cZ,⟨1,_,rfl,rfl,.cons (.agg (.cons (.sl 2 2 0 _ rfl) .nil)) .nil⟩,aK 2 (aX _),aK 3 cZ,trivial⟩ ⟨aJ,aI,aI,aJ,aJ,aJ,aI,trivial⟩)
    ·rw[e5];refine Rr ?_;rw[hw8];obtain⟨kd,hkd⟩:∃kd,kd=(kk.tdiv 8).tmod 2:=⟨_,rfl⟩
     rw[←hkd] at m82 ⊢;have d5:decide (kd>5)=false:=by simp;omega
     refine Rr ?_;rw[d5]
     conv=>whnf
     refine eD.many ?_
     conv=>whnf
     exact hJ kd _ [(0,0),(1,1),(2,2),(3,3)] ⟨by omega,by omega,by omega⟩ (aF _ rfl ⟨aK 0 cZ,⟨1,_,rfl,rfl,.cons (.agg (.cons (.sl 2 2 0 _ rfl) .nil)) .nil⟩,aK 2 (aX _),aK 3 cZ,trivial⟩ ⟨aJ,aI,aI,aJ,aJ,aJ,aI,trivial⟩)
  ·obtain⟨kd0,kd4,kd2⟩:=hkd;refine Rr ?_;refine NR bB (fun x:Nd=>Lr x) (fun x=>⟨[(0,.il 1 (bG l)),(2,.ptr 0 0 0),(3,.ptr 1 0 0),(4,.int .i64 n),(5,.int .i64 ns.length),(6,.int .i64 kk),(7,.ptr 3 0 0)],[(0,.row 25 1 [.agg [.nsl]]),(1,.row 25 1 [.agg [.sl 2 0 ns.length]]),(2,.row 57 12 (bD ns)),(3,.row 57 12 [cN x])],4,181⟩) (fun Qr hQ=>?_) (fun x hx=>?_)
   ·rcases(show kd=0∨kd=1∨kd=2∨kd=3∨kd=4 by omega) with rfl|rfl|rfl|rfl|rfl
    ·have hLf:=Po (kk.tdiv 8) (Vp kk0 (by omega)) (by have:=A5 kk0 (show (0:Int)<8 by omega);omega);have hlo:=F2 (kk.tdiv 8) (Vp kk0 (by omega));generalize u6 (kk.tdiv 8)=f at hLf hlo;obtain⟨f1,f2,f3,f4⟩:=f;refine Rr ?_;rw[hw8];refine hLf.go ?_;refine Rr ?_;exact hQ (GZ (.mk f1 f2 f3 f4)) _ [(0,0),(1,1),(2,2),(3,3)] (mT z0 (by simp) z0 z0 (by simp) (by simp) (by simp) (by simp) (by simp) (by simp) (by simp) (by simp) hlo.1 (by omega)) (aF _ rfl ⟨aK 0 cZ,⟨1,_,rfl,rfl,.cons (.agg (.cons (.sl 2 2 0 _ rfl) .nil)) .nil⟩,aK 2 (aX _),⟨3,_,rfl,rfl,.cons (.agg (.s (.s (.s (.s (.cons (.nil 1) (.cons (.nil 1) (.cons (.nil 4) (.cons (.nil 1) (.s (.s (.s (.s .nil))))))))))))) .nil⟩,trivial⟩ ⟨aJ,aI,aI,aJ,aJ,aJ,aI,trivial⟩)
    ·refine Rr ?_;refine aD (fun h=>?_) (fun h=>?_)
     ·refine Rr ?_;exact hQ ⟨1,[],_,_,[],[],[],[],zV⟩ _ [(0,0),(1,1),(2,2),(3,3)] (mT ⟨by omega,by omega⟩ (by simp) (Kx _) (Kx _) (by simp) (by simp) (by simp) (by simp) (by simp) (by simp) (by simp) (by simp) (iT z0 z0) (by simp[zV,aY,bO])) (aF _ rfl ⟨aK 0 cZ,⟨1,_,rfl,rfl,.cons (.agg (.cons (.sl 2 2 0 _ rfl) .nil)) .nil⟩,aK 2 (aX _),⟨3,_,rfl,rfl,.cons (.agg (.s (.s (.s (.s (.cons (.nil 1) (.cons (.nil 1) (.cons (.nil 4) (.cons (.nil 1) (.s (.s (.s (.cons (.nil 4) .nil))))))))))))) .nil⟩,trivial⟩ ⟨aJ,aI,aI,aJ,aJ,aJ,aI,trivial⟩)
     ·refine Rr ?_;exact hQ ⟨1,[],_,_,[],[],[],[],zV⟩ _ [(0,0),(1,1),(2,2),(3,3)] (mT ⟨by omega,by omega⟩ (by simp) (Kx _) (Kx _) (by simp) (by simp) (by simp) (by simp) (by simp) (by simp) (by simp) (by simp) (iT z0 z0) (by simp[zV,aY,bO])) (aF _ rfl ⟨aK 0 cZ,⟨1,_,rfl,rfl,.cons (.agg (.cons (.sl 2 2 0 _ rfl) .nil)) .nil⟩,aK 2 (aX _),⟨3,_,rfl,rfl,.cons (.agg (.s (.s (.s (.s (.cons (.nil 1) (.cons (.nil 1) (.cons (.nil 4) (.cons (.nil 1) (.s (.s (.s (.cons (.nil 4) .nil))))))))))))) .nil⟩,trivial⟩ ⟨aJ,aI,aI,aJ,aJ,aJ,aI,trivial⟩)
    ·refine Rr ?_;rcases(show decide ((IntKind.i64.wrap (kk.tdiv 32)).tmod 3>0)=true∨decide ((IntKind.i64.wrap (kk.tdiv 32)).tmod 3>0)=false by cases decide ((IntKind.i64.wrap (kk.tdiv 32)).tmod 3>0)<;>simp) with hB|hB
     ·have hB:decide ((IntKind.i64.wrap (kk.tdiv 32)).tmod 3>0)=true:=hB;refine bA.ph 3 1 ?_;refine bA.ph 3 1 ?_;refine bA.ph 9 1 ?_;refine bA.at bB (fun a:List Int × List (List UInt8) × List Int=>a.1.length<=4/\a.2.2.length=a.1.length/\(∀w∈a.1,i64 w)/\(∀w∈a.2.2,i64 w)/\(∀s∈a.2.1,s∈vG)/\a.2.1.length=a.1.length)
       (fun a=>⟨[(0,.il 1 (bG l)),(2,.ptr 0 0 0),(3,.ptr 1 0 0),(4,.int .i64 n),(5,.int .i64 ns.length),(6,.int .i64 kk),(7,.ptr 3 0 0),(8,.int .i64 a.1.length)],[(0,.row 25 1 [.agg [.nsl]]),(1,.row 25 1 [.agg [.sl 2 0 ns.length]]),(2,.row 57 12 (bD ns)),(3,.row 57 12 [.agg [.int .i64 2,.str [],.int .i64 0,.int .i64 0,.sl 4 0 a.1.length,.sl 6 0 a.1.length,.nsl,.sl 5 0 a.1.length,.int .i64 0,.int .i64 0,.str [],.nsl]]),(4,.row 3 1 (bG a.1)),(5,.row 3 1 (bG a.2.2)),(6,.row 9 1 (FL a.2.1))],7,181⟩)
       (fun a=>4-a.1.length) ([],[],[]) [(0,0),(1,1),(2,2),(3,3),(4,4),(5,5),(6,6)] (by simp)
       (aF _ rfl ⟨aK 0 cZ,⟨1,_,rfl,rfl,.cons (.agg (.cons (.sl 2 2 0 _ rfl) .nil)) .nil⟩,aK 2 (aX _),⟨3,_,rfl,rfl,.cons (.agg (.s (.s (.s (.s (.cons (.nslk 4 4 _ rfl rfl) (.cons (.nslk 6 6 _ rfl rfl) (.s (.cons (.nslk 5 5 _ rfl rfl) (.s (.s (.s (.s .nil))))))))))))) .nil⟩,aK 4 .nil,aK 5 .nil,aK 6 .nil,trivial⟩ ⟨aJ,aI,aI,aJ,aJ,aJ,aI,aJ,trivial⟩) ?_
      rintro⟨wl,ll,kl⟩ ⟨j1,j2,j3,j4,j5,j6⟩;simp only at j1 j2 j3 j4 j5 j6;refine Rr ?_;refine aD (fun h=>?_) (fun h=>?_)
      ·have hjc:wl.length<4:=by rw[hw8] at h;have:=jK q80 (show (0:Int)<4 by omega);simp at h;omega
       have hwj:IntKind.i64.wrap ((ns.length:Int)+(wl.length:Int))=(ns.length:Int)+wl.length:=bE ⟨by omega,by omega⟩;have hPj:=Gr l ((ns.length:Int)+wl.length) 5 hl (by omega);have hPb:=kC (l:=l) (i:=(ns.length:Int)+wl.length) (most:=5) (by omega);generalize kX l ((ns.length:Int)+wl.length) 5=pw at hPj hPb;have hKj:=Md l ns.length wl.length hl (by omega) (by omega) (by omega) (by omega);have hKb:=nZ (l:=l) (i:=(ns.length:Int)) (j:=(wl.length:Int)) (by omega);generalize kidI l ns.length wl.length=kw at hKj hKb;refine Rr ?_;rw[hwj];refine hPj.go ?_;refine Rt ?_;refine aM (bT rfl rfl (by rw[aH]) (by simp;omega)) ?_;refine Rt ?_;refine hKj.go ?_;refine Rt ?_;refine aM (bT rfl rfl (by rw[aH,j2]) (by simp;omega)) ?_;refine Rt ?_;rw[hB];refine Rr ?_;obtain⟨qn,hqn,hqe⟩:∃qn:Nat,qn<4/\(IntKind.i64.wrap ((wl.length:Int)+IntKind.i64.wrap (kk.tdiv 96))).tmod 4=(qn:Int):=by
        have a0:=A5 kk0 (show (0:Int)<96 by omega);have a1:0<=kk.tdiv 96:=Vp kk0 (by omega);have e1:IntKind.i64.wrap (kk.tdiv 96)=kk.tdiv 96:=bE ⟨by omega,by omega⟩;have e2:IntKind.i64.wrap ((wl.length:Int)+kk.tdiv 96)=(wl.length:Int)+kk.tdiv 96:=bE ⟨by omega,by omega⟩;rw[e1,e2];have:=jK (show 0<=(wl.length:Int)+kk.tdiv 96 by omega) (show (0:Int)<4 by omega);exact⟨(((wl.length:Int)+kk.tdiv 96).tmod 4).toNat,by omega,by omega⟩
       obtain⟨sa,hsa,hsm⟩:∃sa,([AV.str [97],AV.str [98],AV.str [99],AV.str [100]])[0+((qn:Nat):Int).toNat]? = some (.str sa)/\sa∈vG:=by
        rcases(show qn=0∨qn=1∨qn=2∨qn=3 by omega) with rfl|rfl|rfl|rfl
        ·exact⟨[97],rfl,by simp[vG]⟩
        ·exact⟨[98],rfl,by simp[vG]⟩
        ·exact⟨[99],rfl,by simp[vG]⟩
        ·exact⟨[100],rfl,by simp[vG]⟩
       have bsa:Nat.blt ((qn:Nat):Int).toNat 4=true:=T8 (by simp;omega);rw[hqe];refine Rr ?_;repeat((first|refine bH ?_|refine aM bsa ?_|refine aC hsa ?_);refine Rr ?_)
       refine aM (bT rfl rfl (by rw[cA,j6]) (by simp;omega)) ?_;refine Rr ?_;repeat((first|refine bH ?_|refine aM bsa ?_|refine aC hsa ?_);refine Rr ?_)
       exact .mk (wl++[IntKind.i64.wrap (1+pw)],ll++[sa],kl++[kw]) [(0,0),(1,1),(2,2),(3,3),(19,4),(30,5),(45,6)] ⟨by simp;omega,by simp;omega,pC j3 (Kx _),pC j4 ⟨by omega,by omega⟩,pC j5 hsm,by simp;omega⟩
        (aF _ rfl ⟨aK 0 cZ,⟨1,_,rfl,rfl,.cons (.agg (.cons (.sl 2 2 0 _ rfl) .nil)) .nil⟩,aK 2 (aX _),⟨3,_,rfl,rfl,.cons (.agg (.s (.s (.s (.s (.cons (.slE rfl (by simp)) (.cons (.slE rfl (by simp)) (.s (.cons (.slE rfl (by simp)) (.s (.s (.s (.s .nil))))))))))))) .nil⟩,⟨19,_,rfl,rfl,.eq (a8 _) (by simp[bG])⟩,⟨30,_,rfl,rfl,.eq (a8 _) (by simp[bG])⟩,⟨45,_,rfl,rfl,.eq (Fb _) (by simp[FL])⟩,trivial⟩ ⟨aJ,aI,aI,aJ,aJ,aJ,aI,⟨_,rfl,.w64 (by simp) ⟨by simp;omega,by simp;omega⟩⟩,trivial⟩) (by simp;omega)
      ·refine Rr ?_;exact hQ ⟨2,[],0,0,wl,ll,[],kl,zV⟩ _ [(0,0),(1,1),(2,2),(3,3)] (mT ⟨by omega,by omega⟩ (by simp) z0 z0 (by omega) j3 (by omega) j5 (by simp) (by simp) (by omega) j4 (iT z0 z0) (by simp[zV,aY,bO])) (aF _ rfl ⟨aK 0 cZ,⟨1,_,rfl,rfl,.cons (.agg (.cons (.sl 2 2 0 _ rfl) .nil)) .nil⟩,aK 2 (aX _),⟨3,_,rfl,rfl,.cons (.agg (.s (.s (.s (.s (.cons (.fz' (id:=4) rfl rfl (by rw[aH];first|omega|(simp only;omega)) (by rw[Ub];exact UB (by rw[aH];first|omega|(simp only;omega))) (a8 _)) (.cons (.fz' (id:=6) rfl rfl (by rw[cA];first|omega|(simp only;omega)) (by rw[Ub];exact UB (by rw[cA];first|omega|(simp only;omega))) (Fb _)) (.cons (.nil 4) (.cons (.fz' (id:=5) rfl rfl (by rw[aH];first|omega|(simp only;omega)) (by rw[Ub];exact UB (by rw[aH];first|omega|(simp only;omega))) (a8 _)) (.s (.s (.s (.cons (.nil 4) .nil))))))))))))) .nil⟩,trivial⟩ ⟨aJ,aI,aI,aJ,aJ,aJ,aI,trivial⟩)
     ·have hB:decide ((IntKind.i64.wrap (kk.tdiv 32)).tmod 3>0)=false:=hB;refine bA.ph 3 1 ?_;refine bA.ph 3 1 ?_;refine bA.at bB (fun a:List Int × List (List UInt8) × List Int=>a.1.length<=4/\a.2.2.length=a.1.length/\(∀w∈a.1,i64 w)/\(∀w∈a.2.2,i64 w)/\(∀s∈a.2.1,s∈vG)/\a.2.1.length=0)
       (fun a=>⟨[(0,.il 1 (bG l)),(2,.ptr 0 0 0),(3,.ptr 1 0 0),(4,.int .i64 n),(5,.int .i64 ns.length),(6,.int .i64 kk),(7,.ptr 3 0 0),(8,.int .i64 a.1.length)],[(0,.row 25 1 [.agg [.nsl]]),(1,.row 25 1 [.agg [.sl 2 0 ns.length]]),(2,.row 57 12 (bD ns)),(3,.row 57 12 [.agg [.int .i64 2,.str [],.int .i64 0,.int .i64 0,.sl 4 0 a.1.length,.nsl,.nsl,.sl 5 0 a.1.length,.int .i64 0,.int .i64 0,.str [],.nsl]]),(4,.row 3 1 (bG a.1)),(5,.row 3 1 (bG a.2.2))],6,181⟩)
       (fun a=>4-a.1.length) ([],[],[]) [(0,0),(1,1),(2,2),(3,3),(4,4),(5,5)] (by simp)
       (aF _ rfl ⟨aK 0 cZ,⟨1,_,rfl,rfl,.cons (.agg (.cons (.sl 2 2 0 _ rfl) .nil)) .nil⟩,aK 2 (aX _),⟨3,_,rfl,rfl,.cons (.agg (.s (.s (.s (.s (.cons (.nslk 4 4 _ rfl rfl) (.s (.s (.cons (.nslk 5 5 _ rfl rfl) (.s (.s (.s (.s .nil))))))))))))) .nil⟩,aK 4 .nil,aK 5 .nil,trivial⟩ ⟨aJ,aI,aI,aJ,aJ,aJ,aI,aJ,trivial⟩) ?_
      rintro⟨wl,ll,kl⟩ ⟨j1,j2,j3,j4,j5,j6⟩;simp only at j1 j2 j3 j4 j5 j6;refine Rr ?_;refine aD (fun h=>?_) (fun h=>?_)
      ·have hjc:wl.length<4:=by rw[hw8] at h;have:=jK q80 (show (0:Int)<4 by omega);simp at h;omega
       have hwj:IntKind.i64.wrap ((ns.length:Int)+(wl.length:Int))=(ns.length:Int)+wl.length:=bE ⟨by omega,by omega⟩;have hPj:=Gr l ((ns.length:Int)+wl.length) 5 hl (by omega);have hPb:=kC (l:=l) (i:=(ns.length:Int)+wl.length) (most:=5) (by omega);generalize kX l ((ns.length:Int)+wl.length) 5=pw at hPj hPb;have hKj:=Md l ns.length wl.length hl (by omega) (by omega) (by omega) (by omega);have hKb:=nZ (l:=l) (i:=(ns.length:Int)) (j:=(wl.length:Int)) (by omega);generalize kidI l ns.length wl.length=kw at hKj hKb;refine Rr ?_;rw[hwj];refine hPj.go ?_;refine Rt ?_;refine aM (bT rfl rfl (by rw[aH]) (by simp;omega)) ?_;refine Rt ?_;refine hKj.go ?_;refine Rt ?_;refine aM (bT rfl rfl (by rw[aH,j2]) (by simp;omega)) ?_;refine Rt ?_;rw[hB];refine Rr ?_;exact .mk (wl++[IntKind.i64.wrap (1+pw)],ll,kl++[kw]) [(0,0),(1,1),(2,2),(3,3),(18,4),(29,5)] ⟨by simp;omega,by simp;omega,pC j3 (Kx _),pC j4 ⟨by omega,by omega⟩,j5,j6⟩
        (aF _ rfl ⟨aK 0 cZ,⟨1,_,rfl,rfl,.cons (.agg (.cons (.sl 2 2 0 _ rfl) .nil)) .nil⟩,aK 2 (aX _),⟨3,_,rfl,rfl,.cons (.agg (.s (.s (.s (.s (.cons (.slE rfl (by simp)) (.s (.s (.cons (.slE rfl (by simp)) (.s (.s (.s (.s .nil))))))))))))) .nil⟩,⟨18,_,rfl,rfl,.eq (a8 _) (by simp[bG])⟩,⟨29,_,rfl,rfl,.eq (a8 _) (by simp[bG])⟩,trivial⟩ ⟨aJ,aI,aI,aJ,aJ,aJ,aI,⟨_,rfl,.w64 (by simp) ⟨by simp;omega,by simp;omega⟩⟩,trivial⟩) (by simp;omega)
      ·refine Rr ?_;obtain rfl:ll=[]:=Ux.1 j6;exact hQ ⟨2,[],0,0,wl,[],[],kl,zV⟩ _ [(0,0),(1,1),(2,2),(3,3)] (mT ⟨by omega,by omega⟩ (by simp) z0 z0 (by omega) j3 (by simp) (by simp) (by simp) (by simp) (by omega) j4 (iT z0 z0) (by simp[zV,aY,bO])) (aF _ rfl ⟨aK 0 cZ,⟨1,_,rfl,rfl,.cons (.agg (.cons (.sl 2 2 0 _ rfl) .nil)) .nil⟩,aK 2 (aX _),⟨3,_,rfl,rfl,.cons (.agg (.s (.s (.s (.s (.cons (.fz' (id:=4) rfl rfl (by rw[aH];first|omega|(simp only;omega)) (by rw[Ub];exact UB (by rw[aH];first|omega|(simp only;omega))) (a8 _)) (.cons (.nil 1) (.cons (.nil 4) (.cons (.fz' (id:=5) rfl rfl (by rw[aH];first|omega|(simp only;omega)) (by rw[Ub];exact UB (by rw[aH];first|omega|(simp only;omega))) (a8 _)) (.s (.s (.s (.cons (.nil 4) .nil))))))))))))) .nil⟩,trivial⟩ ⟨aJ,aI,aI,aJ,aJ,aJ,aI,trivial⟩)
    ·obtain⟨qn,hqn,hqe⟩:∃qn:Nat,qn<3/\(IntKind.i64.wrap (kk.tdiv 8)).tmod 3=(qn:Int):=by
      rw[hw8];have:=jK q80 (show (0:Int)<3 by omega);exact⟨((kk.tdiv 8).tmod 3).toNat,by omega,by omega⟩
     obtain⟨nm,hnm,hnl⟩:∃nm,([AV.str [],AV.str [80,97,105,114],AV.str []])[0+((qn:Nat):Int).toNat]? = some (.str nm)/\nm.length<=4:=by
      rcases(show qn=0∨qn=1∨qn=2 by omega) with rfl|rfl|rfl
      ·exact⟨[],rfl,by simp⟩
      ·exact⟨[80,97,105,114],rfl,by simp⟩
      ·exact⟨[],rfl,by simp⟩
     have bnm:Nat.blt ((qn:Nat):Int).toNat 3=true:=T8 (by simp;omega);refine Rr ?_;rw[hqe];refine Rr ?_;repeat((first|refine bH ?_|refine aM bnm ?_|refine aC hnm ?_);refine Rr ?_)
     refine bA.ph 3 1 ?_;refine bA.at bB (fun a:List Int=>a.length<=3/\∀w∈a,i64 w)
      (fun a=>⟨[(0,.il 1 (bG l)),(2,.ptr 0 0 0),(3,.ptr 1 0 0),(4,.int .i64 n),(5,.int .i64 ns.length),(6,.int .i64 kk),(7,.ptr 3 0 0),(9,.int .i64 a.length)],[(0,.row 25 1 [.agg [.nsl]]),(1,.row 25 1 [.agg [.sl 2 0 ns.length]]),(2,.row 57 12 (bD ns)),(3,.row 57 12 [.agg [.int .i64 3,.str nm,.int .i64 0,.int .i64 0,.nsl,.nsl,.nsl,.sl 4 0 a.length,.int .i64 0,.int .i64 0,.str [],.nsl]]),(4,.row 3 1 (bG a))],5,181⟩)
      (fun a=>4-a.length) [] [(0,0),(1,1),(2,2),(3,3),(5,4)] (by simp)
      (aF _ rfl ⟨aK 0 cZ,⟨1,_,rfl,rfl,.cons (.agg (.cons (.sl 2 2 0 _ rfl) .nil)) .nil⟩,aK 2 (aX _),⟨3,_,rfl,rfl,.cons (.agg (.s (.s (.s (.s (.s (.s (.s (.cons (.nslk 5 4 _ rfl rfl) (.s (.s (.s (.s .nil))))))))))))) .nil⟩,aK 5 .nil,trivial⟩ ⟨aJ,aI,aI,aJ,aJ,aJ,aI,aJ,trivial⟩) ?_
     rintro kl ⟨j1,j4⟩;refine Rr ?_;refine aD (fun h=>?_) (fun h=>?_)
     ·have hjc:kl.length<3:=by
       have a0:=A5 kk0 (show (0:Int)<24 by omega);have a1:0<=kk.tdiv 24:=Vp kk0 (by omega);have e1:IntKind.i64.wrap (kk.tdiv 24)=kk.tdiv 24:=bE ⟨by omega,by omega⟩;rw[e1] at h;have:=jK a1 (show (0:Int)<4 by omega);simp at h;omega
      have hKj:=Md l ns.length kl.length hl (by omega) (by omega) (by omega) (by omega);have hKb:=nZ (l:=l) (i:=(ns.length:Int)) (j:=(kl.length:Int)) (by omega);generalize kidI l ns.length kl.length=kw at hKj hKb;refine Rr ?_;refine hKj.go ?_;refine Rt ?_;refine aM (bT rfl rfl (by rw[aH]) (by simp;omega)) ?_;refine Rt ?_;exact .mk (kl++[kw]) [(0,0),(1,1),(2,2),(3,3),(15,4)] ⟨by simp;omega,pC j4 ⟨by omega,by omega⟩⟩
       (aF _ rfl ⟨aK 0 cZ,⟨1,_,rfl,rfl,.cons (.agg (.cons (.sl 2 2 0 _ rfl) .nil)) .nil⟩,aK 2 (aX _),⟨3,_,rfl,rfl,.cons (.agg (.s (.s (.s (.s (.s (.s (.s (.cons (.slE rfl (by simp)) (.s (.s (.s (.s .nil))))))))))))) .nil⟩,⟨15,_,rfl,rfl,.eq (a8 _) (by simp[bG])⟩,trivial⟩ ⟨aJ,aI,aI,aJ,aJ,aJ,aI,⟨_,rfl,.w64 (by simp) ⟨by simp;omega,by simp;omega⟩⟩,trivial⟩) (by simp;omega)
     ·refine Rr ?_;exact hQ ⟨3,nm,0,0,[],[],[],kl,zV⟩ _ [(0,0),(1,1),(2,2),(3,3)] (mT ⟨by omega,by omega⟩ (by omega) z0 z0 (by simp) (by simp) (by simp) (by simp) (by simp) (by simp) (by omega) j4 (iT z0 z0) (by simp[zV,aY,bO])) (aF _ rfl ⟨aK 0 cZ,⟨1,_,rfl,rfl,.cons (.agg (.cons (.sl 2 2 0 _ rfl) .nil)) .nil⟩,aK 2 (aX _),⟨3,_,rfl,rfl,.cons (.agg (.s (.s (.s (.s (.cons (.nil 1) (.cons (.nil 1) (.cons (.nil 4) (.cons (.fz' (id:=4) rfl rfl (by rw[aH];first|omega|(simp only;omega)) (by rw[Ub];exact UB (by rw[aH];first|omega|(simp only;omega))) (a8 _)) (.s (.s (.s (.cons (.nil 4) .nil))))))))))))) .nil⟩,trivial⟩ ⟨aJ,aI,aI,aJ,aJ,aJ,aI,trivial⟩)
    ·have hBd:=Rh ns l kk hl (by omega) (by omega) kk0 (by omega) hT.good;have hBg:=Jf hT (by omega) (by omega) (l:=l) (k:=kk) kk0;have hns:ns.length<=14:=by omega
     generalize AD ns l ns.length kk=bx at hBd hBg;have hbn:=aW bx;refine Rr ?_;refine aE.use1 bB hBd 2 rfl (aX _) (.cons (.agg' (.cons (.sl 2 0 0 _ rfl) .nil)) (.s (.s (.s .nil)))) ?_;rintro r m k' ⟨rfl,rfl⟩;refine⟨_,rfl,hbn,aX _, ?_⟩;obtain⟨kind,name,lo,hi,ws,ls,vals,kids,⟨vk,vn,vs,vks⟩⟩:=bx;refine Rr ?_;exact hQ ⟨kind,name,lo,hi,ws,ls,vals,kids,.mk vk vn vs vks⟩ _ [(0,0),(1,1),(2,2),(3,3)] hBg (aF _ rfl ⟨aK 0 cZ,⟨1,_,rfl,rfl,.cons (.agg (.cons (.sl 2 2 0 _ rfl) .nil)) .nil⟩,aK 2 (aX _),aK 3 (.cons (aW ⟨kind,name,lo,hi,ws,ls,vals,kids,.mk vk vn vs vks⟩) .nil),trivial⟩ ⟨aJ,aI,aI,aJ,aJ,aJ,aI,trivial⟩)
   ·have hxn:=aW x;have hV:=RD (ns++[x]) (by simp;omega) (fun y hy=>by
     rcases UI.1 hy with hy|hy
     ·have:=hT.gen y hy;exact⟨this.ok,by have:=this.vals;omega⟩
     ·simp at hy;rw[hy];exact⟨hx.ok,by have:=hx.vals;omega⟩)
    have hnn2:=aX (ns++[x]);have eTk:List.take ns.length (List.drop 0 (bD ns))=bD ns:=by rw[Ub];exact UB (by rw[cO];omega)
    have hxs:bD (ns++[x])=bD ns++[cN x]:=by simp[bD]
    have hsn:=fun h=>hT.snoc (x:=x) (by omega) hx h
    have hw5:=jK kk0 (show (0:Int)<5 by omega);have hlf:=hT.leaf (m:=kk.tmod 5) ⟨by omega,by omega⟩;obtain⟨e,he⟩:∃e,e=dD (ns++[x]):=⟨_,rfl⟩
    rw[←he] at hV hsn;obtain⟨kind,name,lo,hi,ws,ls,vals,kids,⟨vk,vn,vs,vks⟩⟩:=x;refine Rr ?_;refine aM (Hy (by rw[cO];omega)) ?_;rw[eTk];refine Rr ?_;refine aM (A9 rfl (by rw[cO];omega)) ?_;refine Rr ?_;refine aM (bT rfl rfl rfl (by rw[cO];simp;omega)) ?_;refine Rr ?_;refine aE.useN bB [(7,0)] hV rfl (.cons (.agg' (.cons (.slE rfl (by rw[cO];simp)) .nil)) .nil) ⟨⟨7,_,rfl,rfl,.eq hnn2 (by rw[hxs];rfl)⟩,trivial⟩ rfl ?_;rintro r m k' ⟨rfl,rfl⟩;refine⟨[(0,7)],_,[(7,.row 57 12 (bD (ns++[⟨kind,name,lo,hi,ws,ls,vals,kids,.mk vk vn vs vks⟩])))],8,.same _ nn,⟨aK 0 hnn2,trivial⟩,rfl, ?_⟩;by_cases e0:e=0
    ·subst e0;refine Rr ?_;exact .mk (ns++[⟨kind,name,lo,hi,ws,ls,vals,kids,.mk vk vn vs vks⟩]) [(0,0),(1,1),(7,2)] ⟨hsn rfl,by simp;omega⟩
      (aF _ rfl ⟨aK 0 cZ,⟨1,_,rfl,rfl,.cons (.agg (.cons (.slE rfl (by rw[cO];simp)) .nil)) .nil⟩,aK 7 hnn2,trivial⟩ ⟨aJ,aI,aI,aJ,⟨_,rfl,.w64 (by simp) ⟨by simp;omega,by simp;omega⟩⟩,trivial⟩) (by simp;omega)
    ·have de:(e == 0)=false:=by simpa using e0
     refine Rr ?_;rw[de];refine Rr ?_;refine aM (bT rfl rfl (by rw[cO]) (by simp;omega)) ?_;refine Rr ?_;have hlx:bD (ns++[⟨0,[],0,0,[],[],[],[],.mk 0 (kk.tmod 5) [] []⟩])=bD ns++[cN ⟨0,[],0,0,[],[],[],[],.mk 0 (kk.tmod 5) [] []⟩]:=by simp[bD]
     exact .mk (ns++[⟨0,[],0,0,[],[],[],[],.mk 0 (kk.tmod 5) [] []⟩]) [(0,0),(1,1),(9,2)] ⟨hlf,by simp;omega⟩
      (aF _ rfl ⟨aK 0 cZ,⟨1,_,rfl,rfl,.cons (.agg (.cons (.slE rfl (by simp)) .nil)) .nil⟩,⟨9,_,rfl,rfl,by rw[hlx];exact .snoc rfl (.same (aX _)) (.agg (.s (.s (.s (.s (.cons (.nil 1) (.cons (.nil 1) (.cons (.nil 4) (.cons (.nil 1) (.s (.s (.s (.cons (.nil 4) .nil)))))))))))))⟩,trivial⟩ ⟨aJ,aI,aI,aJ,⟨_,rfl,.w64 (by simp) ⟨by simp;omega,by simp;omega⟩⟩,trivial⟩) (by simp;omega)
 ·have hlt:ns.length=n:=by simp at h;omega
  refine Rr ?_;exact bJ (r':=.agg [.sl 0 0 ns.length]) (m':=tM ns) (n':=1) [(2,0)] rfl ⟨aK 2 (aX _),trivial⟩ (.agg' (.cons (.sl 2 0 0 _ rfl) .nil)) ⟨ns,hT,by omega,rfl,rfl,rfl⟩
set_option maxHeartbeats 16000000
set_option maxHeartbeats 8000000
theorem Sa(x:Nd)(ks:List aT):aZ prog [] 216 [.ip (cN x),.il 4 (aS ks)] (cK (dO x.name ks)):=by
 obtain⟨kind,name,lo,hi,ws,ls,vals,kids,⟨vk,vn,vs,vks⟩⟩:=x;refine aG bB func216 rfl ?_;unfold dO;refine Rr ?_;refine aD (fun h=>?_) (fun h=>?_)
 ·have h1:name=[]:=by simpa using h
  rw[T7 h1];refine Rr ?_;exact aA nn ⟨rfl,rfl,rfl⟩
 ·have h1:¬name=[]:=by simpa using h
  rw[T5 h1];refine Rt ?_;exact aA nn ⟨rfl,rfl,rfl⟩
theorem Q8(x:Nd)(hx:rJ x)(hs:aY x.value<=1048576)(hv:∀v∈x.values,aY v<=1048576)(h0:x.kind=0->x.values=[]):aZ prog [] 59 [.ip (cN x)] (.int .i64 (dS (nL x))):=by
 have hV:=E1 x.value hx.value hs;have hvv:=hx.valuesI;have hvl:=hx.values;obtain⟨kind,name,lo,hi,ws,ls,vals,kids,⟨vk,vn,vs,vks⟩⟩:=x;simp only at hV hv h0 hvv hvl;refine aG bB func59 rfl ?_;refine Rr ?_;refine aD (fun h=>?_) (fun h=>?_)
 ·have h1:kind=0:=by simpa using h
  subst h1;have e:dS (nL ⟨0,name,lo,hi,ws,ls,vals,kids,.mk vk vn vs vks⟩)=bS (.mk vk vn vs vks):=by
   rw[h0 rfl];simp only[nL,if_true,Vn,dS];split
   ·rfl
   ·rename_i h;simpa using (Decidable.not_not.1 h).symm
  rw[e];generalize bS (.mk vk vn vs vks)=z at hV;refine Rr ?_;refine hV.go ?_;refine Rr ?_;exact aA nn ⟨rfl,rfl,rfl⟩
 ·have h1:¬kind=0:=by simpa using h
  have e:nL ⟨kind,name,lo,hi,ws,ls,vals,kids,.mk vk vn vs vks⟩=vals:=by simp[nL,h1]
  rw[e];refine Rr ?_;refine bA.at bB (fun i:Nat=>i<=vals.length/\dS vals=dS (vals.drop i)) (fun i=>⟨[(19,.il 4 (aS vals)),(20,.int .i64 vals.length),(21,.int .i64 i)],[],0,31⟩) (fun i=>vals.length-i) 0 [] ⟨by simp,by simp⟩
   (bV ⟨aQ (.il' (bC _)),⟨_,rfl,.int (by rw[aB])⟩,aJ,trivial⟩) ?_
  rintro i ⟨hi,hf⟩;refine Rr ?_;refine aD (fun h=>?_) (fun h=>?_)
  ·have hil:i<vals.length:=by simpa using h
   have ei:(aS vals)[((i:Nat):Int).toNat]? = some (cK vals[i]):=by simp[kE,Ty hil]
   have hm:=UW hil;have hV2:=E1 vals[i] (hvv _ hm).1 (hv _ hm);rw[UU hil,dS] at hf;generalize vals[i]=y at ei hV2 hf;generalize bS y=z at hV2 hf;obtain⟨y1,y2,y3,y4⟩:=y;refine Rr ?_;refine aC ei ?_;refine Rr ?_;refine hV2.go ?_;refine Rr ?_;refine aD (fun h2=>?_) (fun h2=>?_)
   ·have e:z≠0:=by simpa using h2
    rw[T7 e] at hf;rw[hf];refine Rr ?_;exact aA nn ⟨rfl,rfl,rfl⟩
   ·have e:¬z≠0:=by simpa using h2
    rw[T5 e] at hf;refine Rr ?_;exact .mk (i+1) [] ⟨by omega,hf⟩ (bV ⟨aQ (.il' (bC _)),aJ,⟨_,rfl,.wo⟩,trivial⟩) (by omega)
  ·have hil:i=vals.length:=by simp at h;omega
   rw[hil,Vh,dS] at hf;rw[hf];refine Rr ?_;exact aA nn ⟨rfl,rfl,rfl⟩
theorem RH(x:Nd)(hx:rJ x):aZ prog [] 60 [.ip (cN x)] (.bool (dG x)):=by
 have b1:=hx.lo;have b2:=hx.hi;have b3:=hx.weights;clear hx;obtain⟨kind,name,lo,hi,ws,ls,vals,kids,⟨vk,vn,vs,vks⟩⟩:=x;simp only[i64] at b1 b2 b3;have hnum:dG ⟨kind,name,lo,hi,ws,ls,vals,kids,.mk vk vn vs vks⟩=(decide (lo<=hi) && decide (-4611686018427387904<=lo) && decide (hi<=4611686018427387904) && decide (hi<lo+1099511627776) && ws.all fun w=>decide (1<=w) && decide (w<=1000)):=rfl;generalize dG ⟨kind,name,lo,hi,ws,ls,vals,kids,.mk vk vn vs vks⟩=res at hnum;have hF:∀P:Prop,(res=true->P)->(¬P)->res=false:=fun P h1 h2=>by
  cases hr:res with
  | false=>rfl
  | true=>exact absurd (h1 hr) h2
 refine aG bB func60 rfl ?_;refine Rt ?_;by_cases h1:lo<=hi
 ·have d1:decide (lo>hi)=false:=by simp;omega
  rw[d1];refine Rt ?_;by_cases h2 : -4611686018427387904<=lo
  ·have d2:decide (lo < -4611686018427387904)=false:=by simp;omega
   rw[d2];refine Rt ?_;by_cases h3:hi<=4611686018427387904
   ·have d3:decide (hi>4611686018427387904)=false:=by simp;omega
    rw[d3];refine Rt ?_;have hw:IntKind.u64.wrap (IntKind.u64.wrap hi-IntKind.u64.wrap lo)=hi-lo:=by rw[dH,dH,dH];omega
    simp only[hw];by_cases h4:hi<lo+1099511627776
    ·have d4:decide (hi-lo≥1099511627776)=false:=by simp;omega
     rw[d4];refine Rr ?_;refine bA.at bB (fun k:Nat=>k<=ws.length/\∀j w,j<k->ws[j]? = some w->1<=w/\w<=1000)
      (fun k=>⟨[(45,.il 1 (bG ws)),(46,.int .i64 ws.length),(47,.int .i64 k)],[],0,58⟩) (fun k=>ws.length-k) 0 [] ⟨by simp,by simp⟩
      (bV ⟨aQ (.il' (a8 _)),⟨_,rfl,.int (by rw[aH])⟩,aJ,trivial⟩) ?_
     rintro k ⟨hk,hall⟩;refine Rr ?_;refine aD (fun h=>?_) (fun h=>?_)
     ·have hlt:k<ws.length:=by simpa using h
      have e1:(bG ws)[(k:Int).toNat]? = some (.int .i64 ws[k]):=by rw[T4,bL,Ty hlt];rfl
      have hg:ws[k]? = some ws[k]:=Ty hlt;generalize ws[k]=w at e1 hg;have hbad:(1<=w/\w<=1000->False)->res=false:=fun hb=>hF (1<=w/\w<=1000) (by
       intro e;rw[hnum] at e;simp only[Tz,VQ,UJ] at e;exact e.2 w (UA hg)) hb
      refine Rr ?_;refine aC e1 ?_;refine Rr ?_;by_cases g1:1<=w
      ·have d1:decide (w<1)=false:=by simp;omega
       rw[d1];refine Rr ?_;refine aD (fun h=>?_) (fun h=>?_)
       ·refine Rr ?_;refine aA nn ⟨?_,rfl,rfl⟩;rw[hbad (by simp at h;omega)]
       ·have g2:w<=1000:=by simpa using h
        refine Rr ?_;refine .mk (k+1) [] ⟨by omega,fun j w2 hj hw2=>?_⟩ (bV ⟨aQ (.il' (a8 _)),aJ,⟨_,rfl,.wo⟩,trivial⟩) (by omega);rcases UG j k with hj'|hj'
        ·exact hall j w2 hj' hw2
        ·have hjk:j=k:=by omega
         rw[hjk,hg] at hw2;cases hw2;exact⟨g1,g2⟩
      ·have d1:decide (w<1)=true:=by simp;omega
       rw[d1];refine Rr ?_;refine aA nn ⟨?_,rfl,rfl⟩;rw[hbad (by omega)]
     ·have hk':k=ws.length:=by simp at h;omega
      refine Rr ?_;refine aA nn ⟨?_,rfl,rfl⟩;rw[hnum];congr 1;symm;simp only[Tz,VQ,UJ];refine⟨⟨⟨⟨h1,h2⟩,h3⟩,h4⟩,fun w hw=>?_⟩;obtain⟨j,hj⟩:=Ui hw;exact hall j w (by rw[hk'];exact(T0.1 hj).1) hj
    ·have d4:decide (hi-lo≥1099511627776)=true:=by simp;omega
     rw[d4];refine Rr ?_;refine aA nn ⟨?_,rfl,rfl⟩;rw[hF (hi<lo+1099511627776) (by intro e;rw[hnum] at e;simp at e;omega) h4]
   ·have d3:decide (hi>4611686018427387904)=true:=by simp;omega
    rw[d3];refine Rr ?_;refine aA nn ⟨?_,rfl,rfl⟩;rw[hF (hi<=4611686018427387904) (by intro e;rw[hnum] at e;simp at e;omega) h3]
  ·have d2:decide (lo < -4611686018427387904)=true:=by simp;omega
   rw[d2];refine Rr ?_;refine aA nn ⟨?_,rfl,rfl⟩;rw[hF (-4611686018427387904<=lo) (by intro e;rw[hnum] at e;simp at e;omega) h2]
 ·have d1:decide (lo>hi)=true:=by simp;omega
  rw[d1];refine Rr ?_;refine aA nn ⟨?_,rfl,rfl⟩;rw[hF (lo<=hi) (by intro e;rw[hnum] at e;simp at e;omega) h1]
theorem Ol(bs:List Int)(x:Nd)(hx:rJ x)(hkl:x.kids.length<=65536)(hb:∀y∈bs,0<=y/\y<=1024)(hk:∀(j:Nat) (k:Int),x.kids[j]? = some k->0<=k/\k<bs.length)(h4:4<=x.kind->0<x.kids.length)(hkind:0<=x.kind/\x.kind<=4) :
  aZ prog [] 108 [.ip (cN x),.il 1 (bG bs)] (.int .i64 (gZ bs x)):=by
 have hxn:=aW x;have hat:∀k:Int,0<=dV bs k/\dV bs k<=1024:=fun k=>by
  unfold dV;rw[T1];cases h:bs[k.toNat]? with
  | none=>simp
  | some y=>exact hb y (UA h)
 have eat:∀k:Int,0<=k->k<bs.length->(bG bs)[k.toNat]? = some (.int .i64 (dV bs k)):=fun k h0 h1=>by
  have:k.toNat<bs.length:=by omega
  rw[bL,Ty this];unfold dV;rw[T1,Ty this];rfl
 have hs:=fun l=>iP (b:=bs) (M:=1024) (by omega) hb l
 have hm:=fun l=>gN (b:=bs) (M:=1024) (by omega) hb l
 have hlen:gZ bs x=if x.kind=0 then 0 else if x.kind=1 then 1 else if x.kind=3 then Go.Ax.f8 bs x.kids else if x.kind=2 then 1+cS bs (eJ x) else dV bs (x.kids.getD 0 0)+cS bs (eJ x):=rfl
 have hM:∀k:Nat,k<x.kids.length->(cS bs (if x.kind=2 then x.kids.take (k+1) else(x.kids.take (k+1)).drop 1))=if 0<k∨x.kind=2 then max (cS bs (if x.kind=2 then x.kids.take k else(x.kids.take k).drop 1)) (dV bs (x.kids.getD k 0)) else cS bs (if x.kind=2 then x.kids.take k else(x.kids.take k).drop 1):=fun k hk=>by
  have eg:x.kids.getD k 0=x.kids[k]:=by rw[T1,Ty hk];rfl
  rw[eg];by_cases e2:x.kind=2
  ·rw[T7 e2,T7 (.inr e2),T7 e2,pT hk]
  ·rw[T5 e2,T5 e2];by_cases e0:0<k
   ·rw[T7 (.inl e0),oD hk e0]
   ·rw[T5 (by omega)];have:k=0:=by omega
    subst this;simp[cS,VB]
 obtain⟨kind,name,lo,hi,ws,ls,vals,kids,⟨vk,vn,vs,vks⟩⟩:=x;simp only at hkl hk h4 hkind hlen hM;generalize gZ bs ⟨kind,name,lo,hi,ws,ls,vals,kids,.mk vk vn vs vks⟩=res at hlen;refine aG bB func108 rfl ?_;refine Rr ?_;refine bA.at bB (fun p:Nat × Int × Int=>p.1<=kids.length/\p.2.1=Go.Ax.f8 bs (kids.take p.1)/\p.2.2=cS bs (if kind=2 then kids.take p.1 else(kids.take p.1).drop 1))
  (fun p=>⟨[(0,.ip (cN ⟨kind,name,lo,hi,ws,ls,vals,kids,.mk vk vn vs vks⟩)),(1,.il 1 (bG bs)),(5,.int .i64 p.2.1),(6,.int .i64 p.2.2),(12,.il 1 (bG kids)),(13,.int .i64 kids.length),(14,.int .i64 p.1)],[],0,67⟩)
  (fun p=>kids.length-p.1) (0,0,0) [] ⟨by simp,by simp[Go.Ax.f8],by simp[cS]⟩
  (bV ⟨aQ (.ip _ (hxn.cells.get)),aQ (.il' (a8 _)),aJ,aJ,aQ (.il' (a8 _)),⟨_,rfl,.int (by rw[aH])⟩,aJ,trivial⟩) ?_
 rintro⟨k,sum,most⟩ ⟨hkk,hsum,hmost⟩;simp only at hkk hsum hmost ⊢;have bsum:=hs (kids.take k);rw[←hsum] at bsum;have bm:=hm (if kind=2 then kids.take k else(kids.take k).drop 1);rw[←hmost] at bm;have btk:(kids.take k).length<=65536:=by simp;omega
 refine Rr ?_;refine aD (fun h=>?_) (fun h=>?_)
 ·have hlt:k<kids.length:=by simpa using h
  have e1:(bG kids)[(k:Int).toNat]? = some (.int .i64 kids[k]):=by rw[T4,bL,Ty hlt];rfl
  obtain⟨q0,q1⟩:=hk k _ (Ty hlt);have hst:=tS (b:=bs) hlt;have hM:=hM k hlt;have eg:kids.getD k 0=kids[k]:=by rw[T1,Ty hlt];rfl
  rw[←hsum] at hst;rw[eg,←hmost] at hM;generalize kids[k]=q at e1 q0 q1 hst hM;obtain⟨q,rfl⟩:=UH q0;have e2:=eat q q0 q1;have hq:=hat q;generalize dV bs q=z at e2 hq hst hM;have hw:IntKind.i64.wrap (sum+z)=sum+z:=bE ⟨by omega,by omega⟩;refine Rr ?_;repeat((first|refine aC e1 ?_|refine aC e2 ?_);refine Rr ?_)
  by_cases k0:0<k
  ·have d0:decide ((k:Int)>0)=true:=by simp;omega
   rw[d0];refine Rr ?_;repeat((first|refine aC e1 ?_|refine aC e2 ?_);refine Rr ?_)
   exact .mk (k+1,sum+z,max most z) [] ⟨by simp only;omega,by simp only;rw[hst],by simp only;rw[hM,T7 (.inl k0)]⟩ (bV ⟨aQ (.ip _ (hxn.cells.get)),aQ (.il' (a8 _)),⟨_,rfl,.int (by simp only;exact hw)⟩,⟨_,rfl,.int (by simp only;split<;>omega)⟩,aQ (.il' (a8 _)),aJ,⟨_,rfl,.wp⟩,trivial⟩) (by simp only;omega)
  ·have k0':k=0:=by omega
   have d0:decide ((k:Int)>0)=false:=by simp;omega
   rw[d0];refine Rr ?_;by_cases k2:kind=2
   ·subst k2;refine Rr ?_;repeat((first|refine aC e1 ?_|refine aC e2 ?_);refine Rr ?_)
    exact .mk (k+1,sum+z,max most z) [] ⟨by simp only;omega,by simp only;rw[hst],by show max most z=cS bs (if (2:Int)=2 then kids.take (k+1) else(kids.take (k+1)).drop 1);rw[hM,T7 (.inr rfl)]⟩ (bV ⟨aQ (.ip _ (hxn.cells.get)),aQ (.il' (a8 _)),⟨_,rfl,.int (by simp only;exact hw)⟩,⟨_,rfl,.int (by simp only;split<;>omega)⟩,aQ (.il' (a8 _)),aJ,⟨_,rfl,.wp⟩,trivial⟩) (by simp only;omega)
   ·have d2:(kind == 2)=false:=by simpa using k2
    rw[d2];refine Rr ?_;exact .mk (k+1,sum+z,most) [] ⟨by simp only;omega,by simp only;rw[hst],by simp only;rw[hM,T5 (by omega)]⟩ (bV ⟨aQ (.ip _ (hxn.cells.get)),aQ (.il' (a8 _)),⟨_,rfl,.int (by simp only;exact hw)⟩,aJ,aQ (.il' (a8 _)),aJ,⟨_,rfl,.wp⟩,trivial⟩) (by simp only;omega)
 ·have hk':k=kids.length:=by simp at h;omega
  subst hk';rw[UM] at hsum hmost;have har:eJ ⟨kind,name,lo,hi,ws,ls,vals,kids,.mk vk vn vs vks⟩=if kind=2 then kids else kids.drop 1:=rfl
  rw[har,←hmost,←hsum] at hlen;rcases(show kind=0∨kind=1∨kind=2∨kind=3∨kind=4 by omega) with rfl|rfl|rfl|rfl|rfl
  ·rw[hlen,T7 rfl];refine Rr ?_;exact aA nn ⟨rfl,rfl,rfl⟩
  ·rw[hlen,T5 (by decide),T7 rfl];refine Rr ?_;exact aA nn ⟨rfl,rfl,rfl⟩
  ·rw[hlen,T5 (by decide),T5 (by decide),T5 (by decide),T7 rfl];refine Rr ?_;rw[bE (n:=1+most) ⟨by omega,by omega⟩];exact aA nn ⟨rfl,rfl,rfl⟩
  ·rw[hlen,T5 (by decide),T5 (by decide),T7 rfl];refine Rr ?_;exact aA nn ⟨rfl,rfl,rfl⟩
  ·rw[hlen,T5 (by decide),T5 (by decide),T5 (by decide),T5 (by decide)];have hlt:0<kids.length:=h4 (by omega);have e1:(bG kids)[(0:Int).toNat]? = some (.int .i64 kids[0]):=by rw[show (0:Int).toNat=0 from rfl,bL,Ty hlt];rfl
   obtain⟨q0,q1⟩:=hk 0 _ (Ty hlt);have eg:kids.getD 0 0=kids[0]:=by rw[T1,Ty hlt];rfl
   rw[eg];generalize kids[0]=q at e1 q0 q1;obtain⟨q,rfl⟩:=UH q0;have e2:=eat q q0 q1;have hq:=hat q;generalize dV bs q=z at e2 hq;refine Rr ?_;repeat((first|refine aC e1 ?_|refine aC e2 ?_);refine Rr ?_)
   rw[bE (n:=z+most) ⟨by omega,by omega⟩];exact aA nn ⟨rfl,rfl,rfl⟩
set_option maxHeartbeats 8000000
mutual
theorem JQ:∀(a b:aT),bR a b=0->a=b
 | .mk k n s ks,.mk k' n' s' ks',h=>by
  simp only[bR,andThen] at h;split at h
  ·rename_i h1;split at h
   ·rename_i h2;split at h
    ·rename_i h3;have e1:k=k':=Decidable.byContradiction fun e=>tJ e h1
     have e2:n=n':=Decidable.byContradiction fun e=>tJ e h2
     rw[e1,e2,nC h3,Ic ks ks' h]
    ·rename_i h3;exact absurd h h3
   ·rename_i h2;exact absurd h h2
  ·rename_i h1;exact absurd h h1
theorem Ic:∀(l m:List aT),fI l m=0->l=m
 | [],[],_=>rfl
 | [],_::_,h=>by simp[fI] at h
 | _::_,[],h=>by simp[fI] at h
 | a::l,b::m,h=>by
  simp only[fI,andThen] at h;split at h
  ·rename_i h1;rw[JQ a b h1,Ic l m h]
  ·rename_i h1;exact absurd h h1
end
def pU(x:Nd):Bool:=decide (0<=x.kind) && decide (x.kind<=4) && jH x
theorem A6{v:aT}:jJ [] [] [cK v,.agg [.int .i64 0,.int .i64 0,.str [],.nsl]] [cK v,cK (.mk 0 0 [] [])]:=
 .cons (.same _ (dZ v)) (.cons (.agg' (.s (.s (.s (.cons (.nil 4) .nil))))) .nil)
theorem Qq(x:Nd)(hx:rJ x):aZ prog [] 57 [.ip (cN x)] (.bool (pU x)):=by
 have hC:=pD x.value (.mk 0 0 [] []) hx.value;have hz:(bR x.value (.mk 0 0 [] []) == 0)=CC x.value:=by
  obtain⟨k,n,s,ks⟩:=x.value;rw[Ue];simp only[CC,Tz,UJ,beq_iff_eq];constructor
  ·intro h;have:=JQ _ _ h;cases this;simp
  ·rintro⟨⟨⟨rfl,rfl⟩,rfl⟩,h⟩;have:ks=[]:=Ux.1 h;subst this;exact(nI _).refl
 have hres:pU x=(decide (0<=x.kind) && decide (x.kind<=4) && ((decide (x.kind=0) || CC x.value) && (decide (x.kind=1) || (decide (x.lo=0) && decide (x.hi=0))) && (decide (x.kind=3) || decide (x.name=[])) &&
  (decide (x.kind=2) || (decide (x.weights.length=0) && decide (x.labels.length=0))) && (decide (x.kind=4) || decide (x.values.length=0)) && ((decide (x.kind≠0) && decide (x.kind≠1)) || decide (x.kids.length=0)))):=rfl
 generalize pU x=res at hres;rw[←hz] at hres;obtain⟨c,hc⟩:∃c,c=bR x.value (.mk 0 0 [] []):=⟨_,rfl⟩
 rw[←hc] at hC hres;clear hz hc hx;obtain⟨kind,name,lo,hi,ws,ls,vals,kids,⟨vk,vn,vs,vks⟩⟩:=x;simp only at hres hC;have eW:(((bG ws).length:Int) == 0)=decide (ws.length=0):=by rw[aH,Ue];simp
 have eL:(((FL ls).length:Int) == 0)=decide (ls.length=0):=by rw[cA,Ue];simp
 have eV:(((aS vals).length:Int) == 0)=decide (vals.length=0):=by rw[aB,Ue];simp
 have eK:(((bG kids).length:Int) == 0)=decide (kids.length=0):=by rw[aH,Ue];simp
 have eN:(name == [])=decide (name=[]):=by rw[Ue];simp
 have e1:(lo == 0)=decide (lo=0):=by rw[Ue];simp
 have e2:(hi == 0)=decide (hi=0):=by rw[Ue];simp
 refine aG bB func57 rfl ?_;rcases(show kind=0∨kind=1∨kind=2∨kind=3∨kind=4∨(kind<0∨4<kind) by omega) with rfl|rfl|rfl|rfl|rfl|hk
 ·refine Rr ?_;rw[e1];generalize decide (lo=0)=b1 at hres ⊢;cases b1 with
  | false=>
   refine Rr ?_;exact aA nn ⟨by rw[hres];simp,rfl,rfl⟩
  | true=>
  refine Rr ?_;rw[e2];generalize decide (hi=0)=b2 at hres ⊢;cases b2 with
  | false=>
   refine Rr ?_;exact aA nn ⟨by rw[hres];simp,rfl,rfl⟩
  | true=>
  refine Rr ?_;rw[eW];generalize decide (ws.length=0)=b3 at hres ⊢;cases b3 with
  | false=>
   refine Rr ?_;exact aA nn ⟨by rw[hres];simp,rfl,rfl⟩
  | true=>
  refine Rr ?_;rw[eL];generalize decide (ls.length=0)=b4 at hres ⊢;cases b4 with
  | false=>
   refine Rr ?_;exact aA nn ⟨by rw[hres];simp,rfl,rfl⟩
  | true=>
  refine Rr ?_;rw[eN];generalize decide (name=[])=b5 at hres ⊢;cases b5 with
  | false=>
   refine Rr ?_;exact aA nn ⟨by rw[hres];simp,rfl,rfl⟩
  | true=>
  refine Rr ?_;rw[eV];generalize decide (vals.length=0)=b6 at hres ⊢;cases b6 with
  | false=>
   refine Rr ?_;exact aA nn ⟨by rw[hres];simp,rfl,rfl⟩
  | true=>
  refine Rr ?_;rw[eK];generalize decide (kids.length=0)=b7 at hres ⊢;cases b7 with
  | false=>
   refine Rr ?_;exact aA nn ⟨by rw[hres];simp,rfl,rfl⟩
  | true=>
  refine Rr ?_;exact aA nn ⟨by rw[hres];simp,rfl,rfl⟩
 ·refine Rr ?_;refine hC.useC bB A6 nn ?_;refine Rr ?_;generalize (c == 0)=b1 at hres ⊢;cases b1 with
  | false=>
   refine Rr ?_;exact aA nn ⟨by rw[hres];simp,rfl,rfl⟩
  | true=>
  refine Rr ?_;rw[eW];generalize decide (ws.length=0)=b2 at hres ⊢;cases b2 with
  | false=>
   refine Rr ?_;exact aA nn ⟨by rw[hres];simp,rfl,rfl⟩
  | true=>
  refine Rr ?_;rw[eL];generalize decide (ls.length=0)=b3 at hres ⊢;cases b3 with
  | false=>
   refine Rr ?_;exact aA nn ⟨by rw[hres];simp,rfl,rfl⟩
  | true=>
  refine Rr ?_;rw[eN];generalize decide (name=[])=b4 at hres ⊢;cases b4 with
  | false=>
   refine Rr ?_;exact aA nn ⟨by rw[hres];simp,rfl,rfl⟩
  | true=>
  refine Rr ?_;rw[eV];generalize decide (vals.length=0)=b5 at hres ⊢;cases b5 with
  | false=>
   refine Rr ?_;exact aA nn ⟨by rw[hres];simp,rfl,rfl⟩
  | true=>
  refine Rr ?_;rw[eK];generalize decide (kids.length=0)=b6 at hres ⊢;cases b6 with
  | false=>
   refine Rr ?_;exact aA nn ⟨by rw[hres];simp,rfl,rfl⟩
  | true=>
  refine Rr ?_;exact aA nn ⟨by rw[hres];simp,rfl,rfl⟩
 ·refine Rr ?_;refine hC.useC bB A6 nn ?_;refine Rr ?_;generalize (c == 0)=b1 at hres ⊢;cases b1 with
  | false=>
   refine Rr ?_;exact aA nn ⟨by rw[hres];simp,rfl,rfl⟩
  | true=>
  refine Rr ?_;rw[e1];generalize decide (lo=0)=b2 at hres ⊢;cases b2 with
  | false=>
   refine Rr ?_;exact aA nn ⟨by rw[hres];simp,rfl,rfl⟩
  | true=>
  refine Rr ?_;rw[e2];generalize decide (hi=0)=b3 at hres ⊢;cases b3 with
  | false=>
   refine Rr ?_;exact aA nn ⟨by rw[hres];simp,rfl,rfl⟩
  | true=>
  refine Rr ?_;rw[eN];generalize decide (name=[])=b4 at hres ⊢;cases b4 with
  | false=>
   refine Rr ?_;exact aA nn ⟨by rw[hres];simp,rfl,rfl⟩
  | true=>
  refine Rr ?_;rw[eV];generalize decide (vals.length=0)=b5 at hres ⊢;cases b5 with
  | false=>
   refine Rr ?_;exact aA nn ⟨by rw[hres];simp,rfl,rfl⟩
  | true=>
  refine Rr ?_;exact aA nn ⟨by rw[hres];simp,rfl,rfl⟩
 ·refine Rr ?_;refine hC.useC bB A6 nn ?_;refine Rr ?_;generalize (c == 0)=b1 at hres ⊢;cases b1 with
  | false=>
   refine Rr ?_;exact aA nn ⟨by rw[hres];simp,rfl,rfl⟩
  | true=>
  refine Rr ?_;rw[e1];generalize decide (lo=0)=b2 at hres ⊢;cases b2 with
  | false=>
   refine Rr ?_;exact aA nn ⟨by rw[hres];simp,rfl,rfl⟩
  | true=>
  refine Rr ?_;rw[e2];generalize decide (hi=0)=b3 at hres ⊢;cases b3 with
  | false=>
   refine Rr ?_;exact aA nn ⟨by rw[hres];simp,rfl,rfl⟩
  | true=>
  refine Rr ?_;rw[eW];generalize decide (ws.length=0)=b4 at hres ⊢;cases b4 with
  | false=>
   refine Rr ?_;exact aA nn ⟨by rw[hres];simp,rfl,rfl⟩
  | true=>
  refine Rr ?_;rw[eL];generalize decide (ls.length=0)=b5 at hres ⊢;cases b5 with
  | false=>
   refine Rr ?_;exact aA nn ⟨by rw[hres];simp,rfl,rfl⟩
  | true=>
  refine Rr ?_;rw[eV];generalize decide (vals.length=0)=b6 at hres ⊢;cases b6 with
  | false=>
   refine Rr ?_;exact aA nn ⟨by rw[hres];simp,rfl,rfl⟩
  | true=>
  refine Rr ?_;exact aA nn ⟨by rw[hres];simp,rfl,rfl⟩
 ·refine Rr ?_;refine hC.useC bB A6 nn ?_;refine Rr ?_;generalize (c == 0)=b1 at hres ⊢;cases b1 with
  | false=>
   refine Rr ?_;exact aA nn ⟨by rw[hres];simp,rfl,rfl⟩
  | true=>
  refine Rr ?_;rw[e1];generalize decide (lo=0)=b2 at hres ⊢;cases b2 with
  | false=>
   refine Rr ?_;exact aA nn ⟨by rw[hres];simp,rfl,rfl⟩
  | true=>
  refine Rr ?_;rw[e2];generalize decide (hi=0)=b3 at hres ⊢;cases b3 with
  | false=>
   refine Rr ?_;exact aA nn ⟨by rw[hres];simp,rfl,rfl⟩
  | true=>
  refine Rr ?_;rw[eW];generalize decide (ws.length=0)=b4 at hres ⊢;cases b4 with
  | false=>
   refine Rr ?_;exact aA nn ⟨by rw[hres];simp,rfl,rfl⟩
  | true=>
  refine Rr ?_;rw[eL];generalize decide (ls.length=0)=b5 at hres ⊢;cases b5 with
  | false=>
   refine Rr ?_;exact aA nn ⟨by rw[hres];simp,rfl,rfl⟩
  | true=>
  refine Rr ?_;rw[eN];generalize decide (name=[])=b6 at hres ⊢;cases b6 with
  | false=>
   refine Rr ?_;exact aA nn ⟨by rw[hres];simp,rfl,rfl⟩
  | true=>
  refine Rr ?_;exact aA nn ⟨by rw[hres];simp,rfl,rfl⟩
 ·rcases hk with hk|hk
  ·have d0:decide (kind≥0)=false:=by simp;omega
   refine Rr ?_;rw[d0];refine Rr ?_;exact aA nn ⟨by rw[hres,UO (show ¬0<=kind by omega)];simp,rfl,rfl⟩
  ·have d0:decide (kind≥0)=true:=by simp;omega
   have d1:decide (kind<=4)=false:=by simp;omega
   refine Rr ?_;rw[d0];refine Rr ?_;rw[d1];refine Rr ?_;exact aA nn ⟨by rw[hres,d1];simp,rfl,rfl⟩
set_option maxHeartbeats 8000000
theorem Nk(ns:List Nd)(i:Nat)(x:Nd)(hl:ns.length<=4294967296)(hi:ns[i]? = some x)(hx:rJ x)(hvl:x.values.length<=1000000)(hc:pU x=true) :
  aZ prog [] 58 [.ip (.agg [.il 12 (bD ns),.junk,.junk,.junk]),.int .i64 i] (.bool (c7 i x)):=by
 have hil:=(T0.1 hi).1;have ex:(bD ns)[(i:Int).toNat]? = some (cN x):=by simp[lG,hi]
 have b1:=hx.kids;have hxn:=aW x;have hnn:=aX ns;have hcmp:∀a∈x.values,∀b,aZ prog [] 106 [cK a,cK b] (.int .i64 (bR a b)):=fun a ha b=>pD a b (hx.valuesI a ha).1
 have hV:=E1 (.mk 3 0 x.name []) (kL ⟨by omega,by omega⟩ ⟨by omega,by omega⟩ hx.name (by simp) (by simp[o9])) (by simp[aY,bO]);have hcap:(bS (.mk 3 0 x.name []) == 0)=eH x.name:=by
  simp only[bS,bI,cE,cC,jD,wW,oE,aY,bO];cases eH x.name<;>simp
 have hres:c7 i x=(jH x && (decide (0<=x.kind) && decide (x.kind<=4)) && mM i x.kids && (decide (x.kind≠2) || (decide (1<=x.kids.length) && decide (x.kids.length<=256) && decide (x.weights.length=x.kids.length) && (decide (x.labels.length=0) || decide (x.labels.length=x.kids.length)))) &&
  (decide (x.kind≠3) || (decide (x.kids.length<=256) && (decide (x.name=[]) || (eH x.name && decide (x.kids.length<=16))))) && (decide (x.kind≠4) || decide (x.kids.length=x.values.length+1)) && dQ x.values):=rfl
 simp only[pU,Tz,UJ] at hc;obtain⟨⟨hk0,hk4⟩,hun⟩:=hc;rw[hun,UD hk0,UD hk4] at hres;have hvs:x.kind≠4->x.values=[]:=fun h=>by
  unfold jH at hun;simp only[Tz,U5,UJ] at hun;rcases hun.1.2 with h'|h'
  ·exact absurd h' h
  ·exact Ux.1 h'
 generalize c7 i x=res at hres;rw[←hcap] at hres;generalize bS (.mk 3 0 x.name [])=cv at hV hres;clear hx hcap hi hun;obtain⟨kind,name,lo,hi,ws,ls,vals,kids,⟨vk,vn,vs,vks⟩⟩:=x;simp only at hres hV hcmp hvs hk0 hk4 b1 hvl;have hF:(res=true->False)->AV.bool false=AV.bool res:=fun h1=>by
  cases hr:res with
  | false=>rfl
  | true=>exact(h1 hr).elim
 refine aG bB func58 rfl ?_;refine Rr ?_;repeat(refine aC ex ?_;refine Rr ?_)
 refine bA.at bB (fun k:Nat=>k<=kids.length/\∀(j:Nat) (q:Int),j<k->kids[j]? = some q->0<=q/\q<i)
  (fun k=>⟨[(1,.int .i64 i),(5,.ip (cN ⟨kind,name,lo,hi,ws,ls,vals,kids,.mk vk vn vs vks⟩)),(6,.int .i64 kids.length),(24,.il 1 (bG kids)),(25,.int .i64 kids.length),(26,.int .i64 k)],[],0,132⟩) (fun k=>kids.length-k) 0 [] ⟨by simp,by simp⟩
  (bV ⟨aJ,aQ (.ip _ (hxn.cells.get)),⟨_,rfl,.int (by rw[aH])⟩,aQ (.il' (a8 _)),⟨_,rfl,.int (by rw[aH])⟩,aJ,trivial⟩) ?_
 rintro k ⟨hk,hall⟩;refine Rr ?_;refine aD (fun h=>?_) (fun h=>?_)
 ·have hlt:k<kids.length:=by simpa using h
  have e1:(bG kids)[(k:Int).toNat]? = some (.int .i64 kids[k]):=by rw[T4,bL,Ty hlt];rfl
  have hg:kids[k]? = some kids[k]:=Ty hlt;generalize kids[k]=q at e1 hg;have hbad:(0<=q/\q<i->False)->AV.bool false=AV.bool res:=fun hb=>hF (by
   intro e;rw[hres] at e;simp only[Tz] at e;exact hb (dX.1 e.1.1.1.1.2 k q hg))
  refine Rr ?_;refine aC e1 ?_;refine Rr ?_;by_cases g1:0<=q
  ·have d1:decide (q<0)=false:=by simp;omega
   rw[d1];refine Rr ?_;refine aD (fun h=>?_) (fun h=>?_)
   ·refine Rr ?_;exact aA nn ⟨hbad (by simp at h;omega),rfl,rfl⟩
   ·have g2:q<i:=by simpa using h
    refine Rr ?_;refine .mk (k+1) [] ⟨by omega,fun j w2 hj hw2=>?_⟩ (bV ⟨aJ,aQ (.ip _ (hxn.cells.get)),aJ,aQ (.il' (a8 _)),aJ,⟨_,rfl,.wo⟩,trivial⟩) (by omega);rcases UG j k with hj'|hj'
    ·exact hall j w2 hj' hw2
    ·have hjk:j=k:=by omega
     rw[hjk,hg] at hw2;cases hw2;exact⟨g1,g2⟩
  ·have d1:decide (q<0)=true:=by simp;omega
   rw[d1];refine Rr ?_;exact aA nn ⟨hbad (by omega),rfl,rfl⟩
 ·have hk':k=kids.length:=by simp at h;omega
  have hkin:mM i kids=true:=dX.2 fun j q hj=>hall j q (by rw[hk'];exact(T0.1 hj).1) hj
  rw[hkin] at hres;clear hall hk hk' h hkin;rcases(show kind=0∨kind=1∨kind=2∨kind=3∨kind=4 by omega) with rfl|rfl|rfl|rfl|rfl
  ·obtain rfl:=hvs (by decide);refine Rr ?_;exact aA nn ⟨by rw[hres];simp[dQ],rfl,rfl⟩
  ·obtain rfl:=hvs (by decide);refine Rr ?_;exact aA nn ⟨by rw[hres];simp[dQ],rfl,rfl⟩
  ·obtain rfl:=hvs (by decide);have f1:decide ((kids.length:Int)≥1)=decide (1<=kids.length):=by rw[Ue];simp;omega
   have f2:decide ((kids.length:Int)<=256)=decide (kids.length<=256):=by rw[Ue];simp;omega
   have f3:(((bG ws).length:Int) == (kids.length:Int))=decide (ws.length=kids.length):=by rw[aH,Ue];simp;omega
   have f4:(((FL ls).length:Int) == 0)=decide (ls.length=0):=by rw[cA,Ue];simp
   have f5:(((FL ls).length:Int) == (kids.length:Int))=decide (ls.length=kids.length):=by rw[cA,Ue];simp;omega
   refine Rr ?_;rw[f1];generalize decide (1<=kids.length)=b1 at hres ⊢;cases b1 with
   | false=>
    refine Rr ?_;exact aA nn ⟨by rw[hres];simp,rfl,rfl⟩
   | true=>
   refine Rr ?_;rw[f2];generalize decide (kids.length<=256)=b2 at hres ⊢;cases b2 with
   | false=>
    refine Rr ?_;exact aA nn ⟨by rw[hres];simp,rfl,rfl⟩
   | true=>
   refine Rr ?_;rw[f3];generalize decide (ws.length=kids.length)=b3 at hres ⊢;cases b3 with
   | false=>
    refine Rr ?_;exact aA nn ⟨by rw[hres];simp,rfl,rfl⟩
   | true=>
   refine Rr ?_;rw[f4];generalize decide (ls.length=0)=b4 at hres ⊢;cases b4 with
   | true=>
    refine Rr ?_;exact aA nn ⟨by rw[hres];simp[dQ],rfl,rfl⟩
   | false=>
    refine Rr ?_;rw[f5];exact aA nn ⟨by rw[hres];simp[dQ],rfl,rfl⟩
  ·obtain rfl:=hvs (by decide);have f1:decide ((kids.length:Int)<=16)=decide (kids.length<=16):=by rw[Ue];simp;omega
   have f2:decide ((kids.length:Int)<=256)=decide (kids.length<=256):=by rw[Ue];simp;omega
   refine Rr ?_;refine aD (fun h=>?_) (fun h=>?_)
   ·have hn:name=[]:=by simpa using h
    rw[UD hn] at hres;refine Rr ?_;rw[f2];exact aA nn ⟨by rw[hres];simp[dQ],rfl,rfl⟩
   ·have hn:¬name=[]:=by simpa using h
    rw[UO hn] at hres;refine Rr ?_;rw[f1];by_cases g:kids.length<=16
    ·rw[UD g] at hres ⊢;rw[UD (show kids.length<=256 by omega)] at hres;refine Rr ?_;refine hV.useC bB (.cons (.agg' (.s (.s (.s (.cons (.nil 4) .nil))))) .nil) nn ?_;refine Rr ?_;exact aA nn ⟨by rw[hres];simp[dQ],rfl,rfl⟩
    ·rw[UO g] at hres ⊢;refine Rr ?_;exact aA nn ⟨by rw[hres];simp,rfl,rfl⟩
  ·have hw4:IntKind.i64.wrap ((vals.length:Int)+1)=(vals.length:Int)+1:=w64 rfl ⟨by omega,by omega⟩;refine Rr ?_;refine bA.at bB (fun k:Nat=>1<=k/\k<=max 1 vals.length/\∀(j:Nat) (a b:aT),j+1<k->vals[j]? = some a->vals[j+1]? = some b->bR a b<0)
    (fun k=>⟨[(5,.ip (cN ⟨4,name,lo,hi,ws,ls,vals,kids,.mk vk vn vs vks⟩)),(6,.int .i64 kids.length),(9,.int .i64 k)],[],0,132⟩) (fun k=>vals.length-k) 1 [] ⟨by omega,by omega,fun j a b h=>by omega⟩
    (bV ⟨aQ (.ip _ (hxn.cells.get)),aJ,aJ,trivial⟩) ?_
   rintro k ⟨hk1,hk2,hall⟩;refine Rr ?_;refine aD (fun h=>?_) (fun h=>?_)
   ·have hlt:k<vals.length:=by rw[aB] at h;simpa using h
    obtain⟨p1,p2,p3,p4,pm,pg,-,ep⟩:=bZ (l:=vals) (k:=k-1) (by omega);obtain⟨q1,q2,q3,q4,qm,qg,-,eq⟩:=bZ (l:=vals) (k:=k) hlt;have hw1:IntKind.i64.wrap ((k:Int)-1)=((k-1:Nat):Int):=w64 (by omega) ⟨by omega,by omega⟩;have hc:=hcmp _ pm (.mk q1 q2 q3 q4);obtain⟨c,hc0⟩:∃c,c=bR (.mk p1 p2 p3 p4) (.mk q1 q2 q3 q4):=⟨_,rfl⟩
    rw[←hc0] at hc;refine Rt ?_;rw[hw1];refine Rr ?_;repeat((first|refine aC ep ?_|refine aC eq ?_|refine bH ?_);refine Rr ?_)
    refine hc.go ?_;refine Rr ?_;repeat((first|refine aC ep ?_|refine aC eq ?_|refine bH ?_);refine Rr ?_)
    refine aD (fun h=>?_) (fun h=>?_)
    ·refine Rr ?_;refine aA nn ⟨hF ?_,rfl,rfl⟩;intro e;rw[hres] at e;simp only[Tz] at e;have:=jP e.2 (k-1) _ _ pg (by rw[show k-1+1=k by omega];exact qg);rw[←hc0] at this;simp at h;omega
    ·refine Rr ?_;refine .mk (k+1) [] ⟨by omega,by omega,fun j a b hj ha hb=>?_⟩ (bV ⟨aQ (.ip _ (hxn.cells.get)),aJ,⟨_,rfl,.wo⟩,trivial⟩) (by omega);rcases UG (j+1) k with hj'|hj'
     ·exact hall j a b hj' ha hb
     ·have hjk:j=k-1:=by omega
      subst hjk;rw[pg] at ha;rw[show k-1+1=k by omega,qg] at hb;cases ha;cases hb;rw[←hc0];simpa using h
   ·have hlt:vals.length<=k:=by rw[aB] at h;simpa using h
    have hso:dQ vals=true:=jV fun j a b ha hb=>hall j a b (by have:=(T0.1 hb).1;omega) ha hb
    rw[hso] at hres;refine Rr ?_;rw[aB,hw4];refine aA nn ⟨?_,rfl,rfl⟩;rw[hres];congr 1;rw[Ue];simp;omega
set_option maxHeartbeats 8000000
theorem bY{a b:Bool}(h1:a=true)(h2:b=true):(a && b)=true:=by rw[h1,h2];rfl
theorem sP{n:Nat}{s m:Int}(hn:Nat.ble n 100=true)(hs:0<=s)(h:100*s<=m):decide ((n:Int)*s<=m)=true:=by
 have hn:=T3 hn;have:(n:Int)*s<=100*s:=Int.mul_le_mul_of_nonneg_right (by omega) hs;simp;omega
theorem OI(a b:List aT)(ha:a.length<=1000000)(hb:b.length<=1000000)(hok:∀v∈a,g5 v) :
  aZ prog [] 247 [.il 4 (aS a),.il 4 (aS b)] (.il 4 (aS (eA a b))):=by
 refine aG bB func247 rfl ?_;cases a with
 | nil=>
  rw[BO];refine Rr ?_;exact aA (.il' (bC _)) ⟨rfl,rfl,rfl⟩
 | cons x l=>
  have d0:(((aS (x::l)).length:Int) == 0)=false:=by rw[aB,beq_eq_false_iff_ne];simp;omega
  obtain⟨a,hae⟩:∃a,a=x::l:=⟨_,rfl⟩
  rw[←hae] at d0 ha hok ⊢;clear hae;refine Rr ?_;rw[d0];have hw:IntKind.i64.wrap (((aS a).length:Int)+((aS b).length:Int))=((aS a).length:Int)+((aS b).length:Int):=bE ⟨by omega,by rw[aB,aB];omega⟩;have hal:(aS a).length<=1000000:=by rw[aB];exact ha
  have hbl:(aS b).length<=1000000:=by rw[aB];exact hb
  refine Rr ?_;rw[hw];refine aM (bY rfl (bY rfl (bY rfl (bY rfl (bY (UD (by omega)) (bY (sP rfl (by omega) (by omega)) (UD (by omega)))))))) ?_;refine Rr ?_;refine bA.at bB (fun p:List aT × List aT × List aT=>eA a b=p.1++eA p.2.1 p.2.2/\p.1.length<=2000000-p.2.1.length-p.2.2.length/\p.2.1.length+p.2.2.length<=2000000/\∀v∈p.2.1,g5 v)
   (fun p=>⟨[(0,.il 4 (aS p.2.1)),(1,.il 4 (aS p.2.2)),(5,.sl 0 0 p.1.length)],[(0,.row 55 4 (aS p.1))],1,57⟩) (fun p=>p.2.1.length+p.2.2.length) ([],a,b) [(0,0)] ⟨by simp,by simp,by simp only;omega,hok⟩
   (aF _ rfl ⟨aK 0 .nil,trivial⟩ ⟨aQ (.il' (bC _)),aQ (.il' (bC _)),⟨_,rfl,.sl 0 0 0 _ rfl⟩,trivial⟩) ?_
  clear hok hw hal hbl d0 ha hb;rintro⟨out,a',b'⟩ ⟨hm,hlen,hle,hok⟩;simp only at hm hlen hle hok ⊢;have eg:∀(z:aT) (r:List aT),decide (((aS (z::r)).length:Int)>0)=true:=fun z r=>by rw[aB];simp
  have SZ:∀(z:aT) (r:List aT),((Int.toNat 1).ble (aS (z::r)).length && ((aS (z::r)).length.ble (aS (z::r)).length && (aS (z::r)).length.ble (aS (z::r)).length))=true:=fun z r=>bY (T8 (by rw[aB];simp)) (bY (T8 (UC _)) (T8 (UC _)))
  have ec:∀(z:aT) (r:List aT),List.take ((aS (z::r)).length-Int.toNat 1) (List.drop (Int.toNat 1) (aS (z::r)))=aS r:=fun z r=>by
   show List.take ((aS (z::r)).length-1) (aS r)=aS r
   exact UB (by rw[aB,aB];simp)
  have fin:∀(o p q:List aT) (mem:aN) (n:Nat) (id:Nat),eA a b=o++p++q->lk mem id=some (.row 55 4 (aS o++aS p++aS q))->oH 0 (fun r m n=>r=AV.il 4 (aS (eA a b))/\m=[]/\n=0) (.sl id 0 (o.length+(aS p).length+(aS q).length)) mem n:=by
   intro o p q mem n id h hl;refine gL (r':=.il 4 (aS (eA a b))) (.fzR hl rfl (.eq (bC _) (by rw[h];simp[iE])) (by rw[h];simp[aB];omega)) ⟨rfl,rfl,rfl⟩
  cases a' with
  | nil=>
   rw[BO] at hm;refine Rr ?_;refine aM (bT rfl rfl (by simp[aB]) (by simp[aB] at *;omega)) ?_;refine Rr ?_;refine aM (bT rfl rfl (by simp[aB]) (by simp[aB] at *;omega)) ?_;refine Rr ?_;exact fin out [] b' _ _ _ (by simpa using hm) rfl
  | cons x l=>
   cases b' with
   | nil=>
    rw[HG] at hm;refine Rr ?_;rw[eg];refine Rr ?_;refine aM (bT rfl rfl (by simp[aB]) (by simp[aB] at *;omega)) ?_;refine Rr ?_;refine aM (bT rfl rfl (by simp[aB]) (by simp[aB] at *;omega)) ?_;refine Rr ?_;exact fin out (x::l) [] _ _ _ (by simpa using hm) rfl
   | cons y m=>
    rw[Fg] at hm;have hc:=pD x y (hok x (by simp));have hok':∀v∈l,g5 v:=fun v hv=>hok v (by simp[hv])
    obtain⟨c,hc0⟩:∃c,c=bR x y:=⟨_,rfl⟩
    rw[←hc0] at hc hm;clear hc0;obtain⟨x1,x2,x3,x4⟩:=x;obtain⟨y1,y2,y3,y4⟩:=y;refine Rr ?_;rw[eg];refine Rr ?_;rw[eg];refine Rt ?_;refine hc.go ?_;refine Rr ?_;rcases(show c<0∨c=0∨0<c by omega) with hcc|hcc|hcc
    ·have d1:decide (c<=0)=true:=by simp;omega
     have d2:decide (c≥0)=false:=by simp;omega
     rw[T7 hcc] at hm;rw[d1];refine Rt ?_;refine aM (bT rfl rfl (by simp[aB]) (by simp[aB] at *;omega)) ?_;refine Rr ?_;refine aM (SZ _ _) ?_;rw[ec];refine Rr ?_;rw[d2];refine Rr ?_;exact .mk (out++[.mk x1 x2 x3 x4],l,(.mk y1 y2 y3 y4)::m) [(10,0)] ⟨by simpa using hm,by simp at *;omega,by simp at *;omega,hok'⟩ (aF _ rfl ⟨⟨10,_,rfl,rfl,.eq (bC _) (by rw[iR];rfl)⟩,trivial⟩ ⟨aQ (.il' (bC _)),aQ (.il' (bC _)),⟨_,rfl,.slE rfl (by simp)⟩,trivial⟩) (by first|(simp;done)|(simp;omega))
    ·have d1:decide (c<=0)=true:=by simp;omega
     have d2:decide (c≥0)=true:=by simp;omega
     rw[T5 (by omega),T7 hcc] at hm;rw[d1];refine Rt ?_;refine aM (bT rfl rfl (by simp[aB]) (by simp[aB] at *;omega)) ?_;refine Rr ?_;refine aM (SZ _ _) ?_;rw[ec];refine Rr ?_;rw[d2];refine Rr ?_;refine aM (SZ _ _) ?_;rw[ec];refine Rr ?_;exact .mk (out++[.mk x1 x2 x3 x4],l,m) [(10,0)] ⟨by simpa using hm,by simp at *;omega,by simp at *;omega,hok'⟩ (aF _ rfl ⟨⟨10,_,rfl,rfl,.eq (bC _) (by rw[iR];rfl)⟩,trivial⟩ ⟨aQ (.il' (bC _)),aQ (.il' (bC _)),⟨_,rfl,.slE rfl (by simp)⟩,trivial⟩) (by first|(simp;done)|(simp;omega))
    ·have d1:decide (c<=0)=false:=by simp;omega
     have d2:decide (c≥0)=true:=by simp;omega
     rw[T5 (by omega),T5 (by omega)] at hm;rw[d1];refine Rt ?_;refine aM (bT rfl rfl (by simp[aB]) (by simp[aB] at *;omega)) ?_;refine Rr ?_;rw[d2];refine Rr ?_;refine aM (SZ _ _) ?_;rw[ec];refine Rr ?_;exact .mk (out++[.mk y1 y2 y3 y4],(.mk x1 x2 x3 x4)::l,m) [(10,0)] ⟨by simpa using hm,by simp at *;omega,by simp at *;omega,hok⟩ (aF _ rfl ⟨⟨10,_,rfl,rfl,.eq (bC _) (by rw[iR];rfl)⟩,trivial⟩ ⟨aQ (.il' (bC _)),aQ (.il' (bC _)),⟨_,rfl,.slE rfl (by simp)⟩,trivial⟩) (by first|(simp;done)|(simp;omega))
set_option maxHeartbeats 8000000
theorem tF{α β γ:Type}(f:α->β->γ):∀(a:List α) (b:List β) (i:Nat) (x:α) (y:β),b[i]? = some y->List.zipWith f (a.set i x) b=(List.zipWith f a b).set i (f x y)
 | [],b,i,x,y,_=>by simp
 | p::a,[],i,x,y,hy=>by simp at hy
 | p::a,q::b,0,x,y,hy=>by simp at hy;subst hy;simp
 | p::a,q::b,i+1,x,y,hy=>by simp at hy;simp[tF f a b i x y hy]
def kB(kn:List Bool):List AV:=kn.map AV.bool
def lB(L:List iB)(kn:List Bool):List AV:=List.zipWith (fun b (x:iB)=>AV.il 4 (aS (if b=true then x.vals else []))) kn L
def mB(L:List iB)(kn:List Bool):List AV:=List.zipWith (fun b (x:iB)=>AV.bool (b && x.many)) kn L
theorem yM(kn:List Bool):kH (kB kn):=fun a ha=>by
 obtain⟨n,_,rfl⟩:=US.1 ha;exact .bool _
theorem Ia{α β γ:Type}{f:α->β->γ}{a:List α}{b:List β}{z:γ}(h:z∈List.zipWith f a b):∃x y,z=f x y:=by
 obtain⟨i,hi⟩:=Ui h;rw[Wi] at hi;split at hi
 ·cases hi;exact⟨_,_,rfl⟩
 ·cases hi
theorem AS(L:List iB)(kn:List Bool):kH (lB L kn):=fun a ha=>by
 obtain⟨x,y,rfl⟩:=Ia ha;exact .il' (bC _)
theorem yO(L:List iB)(kn:List Bool):kH (mB L kn):=fun a ha=>by
 obtain⟨x,y,rfl⟩:=Ia ha;exact .bool _
theorem yH{L:List iB}{i:Nat}(h:i<L.length):L[i]? = some (dB L i):=by
 unfold dB;rw[T1,T4,Ty h];rfl
theorem NT{kn:List Bool}{i:Nat}{b:Bool}(h:kn[i]? = some b):(kB kn)[i]? = some (.bool b):=by simp[kB,h]
theorem Mc{L:List iB}{kn:List Bool}{i:Nat}{b:Bool}(h:kn[i]? = some b)(hl:i<L.length):(lB L kn)[i]? = some (.il 4 (aS (if b=true then(dB L i).vals else []))):=by
 simp[lB,Wi,h,yH hl]
theorem MQ{L:List iB}{kn:List Bool}{i:Nat}{b:Bool}(h:kn[i]? = some b)(hl:i<L.length):(mB L kn)[i]? = some (.bool (b && (dB L i).many)):=by
 simp[mB,Wi,h,yH hl]
theorem Qw(kn:List Bool)(i:Nat)(b:Bool):kB (kn.set i b)=(kB kn).set i (.bool b):=by simp[kB,Wf]
theorem RG{L:List iB}(kn:List Bool){i:Nat}(hl:i<L.length):lB L (kn.set i true)=(lB L kn).set i (.il 4 (aS (dB L i).vals)):=by
 unfold lB;rw[tF _ kn L i true _ (yH hl)];simp
theorem Qj{L:List iB}(kn:List Bool){i:Nat}(hl:i<L.length):mB L (kn.set i true)=(mB L kn).set i (.bool (dB L i).many):=by
 unfold mB;rw[tF _ kn L i true _ (yH hl)];simp
def sM(ns:List Nd)(kn:List Bool):aN:=[(0,.row 195 4 [.agg [.il 12 (bD ns),.sl 1 0 ns.length,.sl 2 0 ns.length,.sl 3 0 ns.length]]),(1,.row 4 1 (kB kn)),(2,.row 53 1 (lB (aL ns) kn)),(3,.row 4 1 (mB (aL ns) kn))]
def uQ(ns:List Nd)(l:iB):AV->aN->Nat->Prop:=fun r m k=>∃kn,kn.length=ns.length/\r = .tup [.il 4 (aS l.vals),.bool (!l.many)]/\m=sM ns kn/\k=4
def sQ(ns:List Nd)(i:Nat):AV->aN->Nat->Prop:=uQ ns (dB (aL ns) i)
theorem FJ{mem:aN}{σ:List (Nat × Nat)}{ns:List Nd}{N a b c a' b' c':Nat}(h1:lk σ a=some a')(h2:lk σ b=some b')(h3:lk σ c=some c') :
  rI mem σ [.agg [.il 12 (bD ns),.sl a 0 N,.sl b 0 N,.sl c 0 N]] [.agg [.il 12 (bD ns),.sl a' 0 N,.sl b' 0 N,.sl c' 0 N]]:=
 .cons (.agg (.cons (.same _ (.il' (aX _))) (.cons (.sl a a' 0 N h1) (.cons (.sl b b' 0 N h2) (.cons (.sl c c' 0 N h3) .nil))))) .nil
theorem fH(ns:List Nd)(kn:List Bool):dE (sM ns kn) (pK [0,1,2,3]) (sM ns kn):=
 ⟨⟨0,_,rfl,rfl,FJ rfl rfl rfl⟩,aK 1 (yM _),aK 2 (AS _ _),aK 3 (yO _ _),trivial⟩
theorem TQ{ns:List Nd}{n:Nat}(h:gO ns n)(i:Nat)(hi:i<n)(kn:List Bool)(hk:kn.length=ns.length)
  (hF:aE prog [] 184 [.ptr 0 0 0,.int .i64 i] (sM ns kn) 4 (sQ ns i)) :
  aE prog [] 110 [.ptr 0 0 0,.int .i64 i] (sM ns kn) 4 (sQ ns i):=by
 have hN:=h.hn;have hL:i<(aL ns).length:=by rw[dL];omega
 have h0:0+((i:Nat):Int).toNat=i:=by simp
 have hg:∀kn:List Bool,kn.length=ns.length->∃b,kn[i]? = some b:=fun kn hk=>⟨kn[i],Ty (by omega)⟩
 obtain⟨b,hb⟩:=hg kn hk;have e1:(kB kn)[0+((i:Nat):Int).toNat]? = some (.bool b):=by rw[h0];exact NT hb
 have g1:Nat.blt ((i:Nat):Int).toNat ns.length=true:=T8 (by simp;omega);refine aG bB func110 rfl ?_;refine Rr ?_;repeat((first|refine aM g1 ?_|refine aC e1 ?_);refine Rr ?_)
 have fin:∀(mem:aN) (kn':List Bool),kn'.length=ns.length->dE mem (pK [0,1,2,3]) (sM ns kn')->∀(r:AV) (nx:Nat),Cv mem (pK [0,1,2,3]) r (.tup [.il 4 (aS (dB (aL ns) i).vals),.bool (!(dB (aL ns) i).many)])->oH 4 (sQ ns i) r mem nx:=
  fun mem kn' hk' hM r nx hr=>bJ (n':=4) (m':=sM ns kn') (pK [0,1,2,3]) rfl hM hr ⟨kn',hk',rfl,rfl,rfl⟩
 cases b with
 | true=>
  have e2:(lB (aL ns) kn)[0+((i:Nat):Int).toNat]? = some (.il 4 (aS (dB (aL ns) i).vals)):=by rw[h0,Mc hb hL];rfl
  have e3:(mB (aL ns) kn)[0+((i:Nat):Int).toNat]? = some (.bool (dB (aL ns) i).many):=by rw[h0,MQ hb hL];rfl
  refine Rr ?_;repeat((first|refine aM g1 ?_|refine aC e1 ?_|refine aC e2 ?_|refine aC e3 ?_|refine bH ?_);refine Rr ?_)
  exact fin _ kn hk (fH ns kn) _ _ (.same _ nn)
 | false=>
  refine Rr ?_;refine aE.useI bB [0,1,2,3] hF (by rfl) (.cons (.ptr 0 0 0 0 rfl) (.s .nil)) (fH ns kn) (by rfl) ?_;rintro r m k ⟨kn',hk',rfl,rfl,rfl⟩;refine⟨nn,fH ns kn',by rfl, ?_⟩;obtain⟨b',hb'⟩:=hg kn' hk';have e1:(kB kn')[0+((i:Nat):Int).toNat]? = some (.bool b'):=by rw[h0];exact NT hb'
  have e2:=Mc hb' hL;have e3:=MQ hb' hL;rw[←h0] at e2 e3;have q1:((kB kn').set (0+((i:Nat):Int).toNat) (.bool true))[0+((i:Nat):Int).toNat]? = some (.bool true):=by rw[h0];exact Uu (by simp[kB];omega)
  have q2:((lB (aL ns) kn').set (0+((i:Nat):Int).toNat) (.il 4 (aS (dB (aL ns) i).vals)))[0+((i:Nat):Int).toNat]? = some (.il 4 (aS (dB (aL ns) i).vals)):=by rw[h0];exact Uu (by simp[lB,List.length_zipWith];omega)
  have q3:((mB (aL ns) kn').set (0+((i:Nat):Int).toNat) (.bool (!(!(dB (aL ns) i).many))))[0+((i:Nat):Int).toNat]? = some (.bool (!(!(dB (aL ns) i).many))):=by rw[h0];exact Uu (by simp[mB,List.length_zipWith];omega)
  refine Rr ?_;repeat((first|refine aM g1 ?_|refine aC e1 ?_|refine aC e2 ?_|refine aC e3 ?_|refine aC q1 ?_|refine aC q2 ?_|refine aC q3 ?_|refine bH ?_|refine dN.2 ?_);refine Rr ?_)
  rw[h0];refine fin _ (kn'.set i true) (by simp[hk']) ⟨⟨0,_,rfl,rfl,FJ rfl rfl rfl⟩,⟨1,_,rfl,rfl,.eq (yM _) (Qw _ _ _).symm⟩,⟨2,_,rfl,rfl,.eq (AS _ _) (RG _ hL).symm⟩,⟨3,_,rfl,rfl,.eq (yO _ _) (by rw[Qj _ hL,Bool.not_not])⟩,trivial⟩ _ _ (.eq nn (by rw[Bool.not_not]))
set_option maxHeartbeats 8000000
def Nb(ns:List Nd)(i:Nat):Prop:=∀kn:List Bool,kn.length=ns.length->aE prog [] 110 [.ptr 0 0 0,.int .i64 i] (sM ns kn) 4 (sQ ns i)
theorem Ar{ns:List Nd}{l:iB}(mem:aN)(kn':List Bool)(hk':kn'.length=ns.length)(hM:dE mem (pK [0,1,2,3]) (sM ns kn'))(r:AV)(nx:Nat)(hr:Cv mem (pK [0,1,2,3]) r (.tup [.il 4 (aS l.vals),.bool (!l.many)])):oH 4 (uQ ns l) r mem nx:=
 bJ (n':=4) (m':=sM ns kn') (pK [0,1,2,3]) rfl hM hr ⟨kn',hk',rfl,rfl,rfl⟩
theorem QY{ns:List Nd}{n:Nat}(h:gO ns n)(i:Nat)(hi:i<=n)(kids:List Int)(hkl:kids.length<=65536)(hkids:∀k∈kids,0<=k/\k<i)(hOf:∀j<i,Nb ns j)(kn:List Bool)(hk:kn.length=ns.length) :
  aE prog [] 228 [.ptr 0 0 0,.il 1 (bG kids)] (sM ns kn) 4 (uQ ns (mY (aL ns) kids)):=by
 refine aG bB func228 rfl ?_;refine Rr ?_;refine bA.at bB (fun p:Nat × List Bool × List aT=>p.1<=kids.length/\p.2.1.length=ns.length/\(kids.take p.1).foldl (bX (aL ns)) ([],false)=(p.2.2,false)/\lV p.2.2/\p.2.2.length<=1024/\∀v∈p.2.2,g5 v)
  (fun p=>⟨[(0,.ptr 0 0 0),(6,.il 4 (aS p.2.2)),(11,.il 1 (bG kids)),(12,.int .i64 kids.length),(13,.int .i64 p.1)],sM ns p.2.1,4,33⟩) (fun p=>kids.length-p.1) (0,kn,[]) (pK [0,1,2,3])
  ⟨by simp,hk,by simp,by simp[lV],by simp,by simp⟩
  (aF _ rfl (fH ns kn) ⟨aI,⟨_,rfl,.nil 4⟩,aQ (.il' (a8 _)),⟨_,rfl,.int (by rw[aH])⟩,aJ,trivial⟩) ?_
 rintro⟨j,kn,out⟩ ⟨hj,hk,hf,hso,hol,hok⟩;simp only at hj hk hf hso hol hok ⊢;refine Rr ?_;refine aD (fun hb=>?_) (fun hb=>?_)
 ·have hlt:j<kids.length:=by simpa using hb
  have e1:(bG kids)[(j:Int).toNat]? = some (.int .i64 kids[j]):=by rw[T4,bL,Ty hlt];rfl
  have hg:kids[j]? = some kids[j]:=Ty hlt;generalize kids[j]=k at e1 hg;obtain⟨k0,k1⟩:=hkids k (UA hg);obtain⟨k,rfl⟩:=UH k0;have hO:=hOf k (by omega) kn hk;have hst:=Qf hg hf;have hvals:=h.vals (k:=k) (by omega) (by omega);have hsr:=S7 ns k;simp only[bX,WV] at hst;unfold sQ at hO;refine Rr ?_;refine aC e1 ?_;refine Rr ?_;refine aE.useI bB [0,1,2,3] hO (by rfl) (.cons (.ptr 0 0 0 0 rfl) (.s .nil)) (fH ns kn) (by rfl) ?_;rintro r m k' ⟨kn',hk',rfl,rfl,rfl⟩;refine⟨nn,fH ns kn',by rfl, ?_⟩;generalize dB (aL ns) k=lk at hst hvals hsr;obtain⟨lv,lm⟩:=lk;simp only at hst hvals hsr;cases lm with
  | true=>
   have hbad:=JS (bs:=aL ns) (kids:=kids) (j:=j+1) (by rw[hst];rfl);rw[hbad];refine Rr ?_;exact Ar _ kn' hk' (fH ns kn') _ _ (.tup' (.cons (.nil 4) (.s .nil)))
  | false=>
   have hm:=OI out lv (by omega) (by omega) hok;have hms:=Fm hso hsr;rw[←hms] at hst;have hmok:∀v∈eA out lv,g5 v:=fun v hv=>by
    rcases(nY _ _ _).1 hv with hv|hv
    ·exact hok v hv
    ·exact hvals.2 v hv
   have hmsr:=CA out lv hso hsr;generalize eA out lv=mg at *;refine Rr ?_;refine hm.go ?_;refine Rr ?_;refine aD (fun hb2=>?_) (fun hb2=>?_)
   ·have h1:1024<mg.length:=by rw[aB] at hb2;simp at hb2;omega
    have hbad:=JS (bs:=aL ns) (kids:=kids) (j:=j+1) (by rw[hst];simpa using h1);rw[hbad];refine Rr ?_;exact Ar _ kn' hk' (fH ns kn') _ _ (.tup' (.cons (.nil 4) (.s .nil)))
   ·have h1:mg.length<=1024:=by rw[aB] at hb2;simp at hb2;omega
    refine Rr ?_;exact .mk (j+1,kn',mg) (pK [0,1,2,3]) ⟨by simp only;omega,hk',by simp only;rw[hst];simp;omega,hmsr,h1,hmok⟩
     (aF _ rfl (fH ns kn') ⟨aI,aJ,aQ (.il' (a8 _)),aJ,⟨_,rfl,.wp⟩,trivial⟩) (by simp only;omega)
 ·have hlt:j=kids.length:=by simp at hb;omega
  rw[hlt,UM] at hf;rw[M1 hf];refine Rr ?_;exact Ar _ kn hk (fH ns kn) _ _ (.same _ nn)
def encLs(ls:List (List aT)):List AV:=ls.map fun l=>.il 4 (aS l)
theorem encLs_nn(ls:List (List aT)):kH (encLs ls):=fun a ha=>by
 obtain⟨l,_,rfl⟩:=US.1 ha;exact .il' (bC _)
theorem encLs_length(ls:List (List aT)):(encLs ls).length=ls.length:=by simp[encLs]
theorem encLs_get{ls:List (List aT)}{i:Nat}{l:List aT}(h:ls[i]? = some l):(encLs ls)[i]? = some (.il 4 (aS l)):=by simp[encLs,h]
def RW(ns:List Nd)(kn:List Bool)(rest:aN):aN:=(0,.row 195 4 [.agg [.il 12 (bD ns),.sl 1 0 ns.length,.sl 2 0 ns.length,.sl 3 0 ns.length]])::(1,.row 4 1 (kB kn))::(2,.row 53 1 (lB (aL ns) kn))::(3,.row 4 1 (mB (aL ns) kn))::rest
theorem fU{mem:aN}{σ:List (Nat × Nat)}{ns:List Nd}{kn:List Bool}{rest:aN}(h0:lk σ 0=some 0)(h1:lk σ 1=some 1)(h2:lk σ 2=some 2)(h3:lk σ 3=some 3)
  (m0:lk mem 0=some (.row 195 4 [.agg [.il 12 (bD ns),.sl 1 0 ns.length,.sl 2 0 ns.length,.sl 3 0 ns.length]])) (m1:lk mem 1=some (.row 4 1 (kB kn))) (m2:lk mem 2=some (.row 53 1 (lB (aL ns) kn))) (m3:lk mem 3=some (.row 4 1 (mB (aL ns) kn)))
  (hr:dE mem σ rest):dE mem σ (RW ns kn rest):=
 ⟨⟨0,_,h0,m0,FJ h1 h2 h3⟩,⟨1,_,h1,m1,.same (yM _)⟩,⟨2,_,h2,m2,.same (AS _ _)⟩,⟨3,_,h3,m3,.same (yO _ _)⟩,hr⟩
theorem BW{mem:aN}{σ:List (Nat × Nat)}:∀m:Nat,rI mem σ (List.replicate m .nsl) (encLs (List.replicate m []))
 | 0=>.nil
 | m+1=>by
  rw[VF,VF];exact .cons (.one rfl rfl (.nil 4)) (BW m)
theorem OR(ls:List (List aT))(i:Nat)(l:List aT):encLs (ls.set i l)=(encLs ls).set i (.il 4 (aS l)):=by simp[encLs,Wf]
theorem Dv{mem:aN}{σ:List (Nat × Nat)}:∀m:Nat,rI mem σ (List.replicate m (.agg [.int .i64 0,.int .i64 0,.str [],.nsl])) (aS (List.replicate m (.mk 0 0 [] [])))
 | 0=>.nil
 | m+1=>by
  rw[VF,VF,aS];exact .cons (JY 0 0 []) (Dv m)
theorem NP{ns:List Nd}{n:Nat}(h:gO ns n)(i:Nat)(hi:i<=n)(x:Nd)(hkl:x.kids.length<=65536)(hkids:∀k∈x.kids,0<=k/\k<i)(hOf:∀j<i,Nb ns j)(kn:List Bool)(hk:kn.length=ns.length) :
  aE prog [] 229 [.ptr 0 0 0,.ip (cN x)] (sM ns kn) 4 (uQ ns (pL (aL ns) x)):=by
 have hxn:=aW x;have hpb:=fun(j:Nat) (e:((x.kids.take j).foldl (gA (aL ns)) (1,false)).2=true)=>N2 (bs:=aL ns) (x:=x) (j:=j) e
 have hpg:=fun(t:Nat) (e:x.kids.foldl (gA (aL ns)) (1,false)=(t,false))=>NQ (Bu ns) (x:=x) (t:=t) e
 have hmade:=fun ks=>Sa x ks
 generalize pL (aL ns) x=res at hpb hpg ⊢;obtain⟨kind,name,lo,hi',ws,ls,vals,kids,⟨vk,vn,vs,vks⟩⟩:=x;simp only at hkl hkids hpb hpg;refine aG bB func229 rfl ?_;refine Rr ?_;refine aM (bY rfl (bY rfl (bY rfl (bY (UD (by omega)) (bY (UD (by omega)) (bY (sP rfl (by omega) (by simp only[aH];omega)) (UD (by simp only[aH];omega)))))))) ?_;refine Rr ?_;refine bA.at bB (fun p:Nat × List Bool × Nat × List (List aT)=>p.1<=kids.length/\p.2.1.length=ns.length/\(kids.take p.1).foldl (gA (aL ns)) (1,false)=(p.2.2.1,false)/\p.2.2.1<=1024/\p.2.2.2.length=kids.length/\(∀(q:Nat) (k:Int),q<p.1->kids[q]? = some k->p.2.2.2[q]? = some (dB (aL ns) k).vals/\(dB (aL ns) k).vals≠[]))
  (fun p=>⟨[(0,.ptr 0 0 0),(1,.ip (cN ⟨kind,name,lo,hi',ws,ls,vals,kids,.mk vk vn vs vks⟩)),(6,.sl 4 0 kids.length),(7,.int .i64 p.2.2.1),(25,.il 1 (bG kids)),(26,.int .i64 kids.length),(27,.int .i64 p.1)],RW ns p.2.1 [(4,.row 53 1 (encLs p.2.2.2))],5,98⟩)
  (fun p=>kids.length-p.1) (0,kn,1,List.replicate kids.length []) (pK [0,1,2,3,4])
  ⟨by simp,hk,by simp,by simp,by simp,fun q k hq=>by simp at hq⟩
  (aF _ rfl (fU rfl rfl rfl rfl rfl rfl rfl rfl ⟨⟨4,_,rfl,rfl,.to (BW kids.length) (by rw[show (((bG kids).length:Nat):Int).toNat=kids.length by rw[aH];simp])⟩,trivial⟩) ⟨aI,aQ (.ip' hxn),⟨_,rfl,.slE rfl (by rw[aH];simp)⟩,aJ,aQ (.il' (a8 _)),⟨_,rfl,.int (by rw[aH])⟩,aJ,trivial⟩) ?_
 rintro⟨j,kn,total,lists⟩ ⟨hj,hk,hf,hto,hll,hls⟩;simp only at hj hk hf hto hll hls ⊢;refine Rr ?_;refine aD (fun hb=>?_) (fun hb=>?_)
 ·have hlt:j<kids.length:=by simpa using hb
  have e1:(bG kids)[(j:Int).toNat]? = some (.int .i64 kids[j]):=by rw[T4,bL,Ty hlt];rfl
  have hg:kids[j]? = some kids[j]:=Ty hlt;generalize kids[j]=k at e1 hg;obtain⟨k0,k1⟩:=hkids k (UA hg);obtain⟨k,rfl⟩:=UH k0;have hO:=hOf k (by omega) kn hk;have hst:=Qz hg hf;have hvals:=h.vals (k:=k) (by omega) (by omega);have hne:=h.ne (k:=k) (by omega) (by omega);have hls':∀(q:Nat) (k':Int),q<j+1->kids[q]? = some k'->(q<j/\(lists[q]? = some (dB (aL ns) k').vals/\(dB (aL ns) k').vals≠[]))∨(q=j/\k'=k):=fun q k' hq hk'=>by
   rcases UG q j with hq'|hq'
   ·exact .inl ⟨hq',hls q k' hq' hk'⟩
   ·have:q=j:=by omega
    subst this;rw[hg] at hk';cases hk';exact .inr ⟨rfl,rfl⟩
  simp only[gA,WV] at hst;unfold sQ at hO;refine Rr ?_;refine aC e1 ?_;refine Rr ?_;refine aE.useI bB [0,1,2,3] hO (by rfl) (.cons (.ptr 0 0 0 0 rfl) (.s .nil)) (fH ns kn) (by rfl) ?_;rintro r m k' ⟨kn',hk',rfl,rfl,rfl⟩;refine⟨nn,fH ns kn',by rfl, ?_⟩;obtain⟨lk,hlk⟩:∃lk,lk=dB (aL ns) k:=⟨_,rfl⟩
  rw[←hlk] at hst hvals hne ⊢;obtain⟨lv,lm⟩:=lk;simp only at hst hvals hne;cases lm with
  | true=>
   have hbad:=hpb (j+1) (by rw[hst];rfl);rw[hbad];refine Rr ?_;exact Ar _ kn' hk' (fU rfl rfl rfl rfl rfl rfl rfl rfl trivial) _ _ (.tup' (.cons (.nil 4) (.s .nil)))
  | false=>
   have hw:IntKind.i64.wrap ((total:Int)*((aS lv).length:Int))=((total*lv.length:Nat):Int):=by
    have:total*lv.length<=1024*1024:=VO hto hvals.1;exact w64 (by rw[aB];simp) ⟨by omega,by omega⟩
   refine Rr ?_;rw[hw];refine Rr ?_;refine aD (fun hb2=>?_) (fun hb2=>?_)
   ·have hbad:=hpb (j+1) (by rw[hst];simp at hb2 ⊢;omega);rw[hbad];refine Rr ?_;exact Ar _ kn' hk' (fU rfl rfl rfl rfl rfl rfl rfl rfl trivial) _ _ (.tup' (.cons (.nil 4) (.s .nil)))
   ·have hto':total*lv.length<=1024:=by simp at hb2;omega
    have h0:0+((j:Nat):Int).toNat=j:=by simp
    have g1:Nat.blt ((j:Nat):Int).toNat kids.length=true:=T8 (by simp;omega);have e3:(encLs lists)[0+((j:Nat):Int).toNat]? = some (.il 4 (aS lists[j])):=by rw[h0];exact encLs_get (Ty (by omega))
    have e4:((encLs lists).set (0+((j:Nat):Int).toNat) (.il 4 (aS lv)))[0+((j:Nat):Int).toNat]? = some (.il 4 (aS lv)):=by rw[h0];exact Uu (by rw[encLs_length];omega)
    refine Rt ?_;repeat((first|refine aM g1 ?_|refine aC e3 ?_|refine aC e4 ?_);refine Rt ?_)
    exact .mk (j+1,kn',total*lv.length,lists.set j lv) (pK [0,1,2,3,4]) ⟨by simp only;omega,hk',by simp only;rw[hst];simp;omega,hto',by simp only[Vm];exact hll,fun q k' hq hkq=>by
      simp only at hq ⊢;rcases hls' q k' hq hkq with⟨h1,h2,h3⟩|⟨rfl,rfl⟩
      ·rw[WP (by omega)];exact⟨h2,h3⟩
      ·rw[Uu (by omega),←hlk];exact⟨rfl,hne rfl⟩⟩
     (aF _ rfl (fU rfl rfl rfl rfl rfl rfl rfl rfl ⟨⟨4,_,rfl,rfl,.eq (encLs_nn _) (by rw[h0];exact(OR _ _ _).symm)⟩,trivial⟩) ⟨aI,aQ (.ip' hxn),⟨_,rfl,.slE rfl rfl⟩,aJ,aQ (.il' (a8 _)),aJ,⟨_,rfl,.wp⟩,trivial⟩) (by simp only;omega)
 ·have hlt:j=kids.length:=by simp at hb;omega
  rw[hlt,UM] at hf;obtain⟨hres,hpr⟩:=hpg total hf;rw[hres];have hlv:lists=kids.map fun k=>(dB (aL ns) k).vals:=Wg fun q=>by
   rw[Uh];rcases UG q kids.length with hq|hq
   ·rw[(hls q _ (by omega) (Ty hq)).1,Ty hq];rfl
   ·rw[UE (by omega),UE hq];rfl
  have hlne:∀l∈lists,l≠[]:=fun l hl=>by
   rw[hlv] at hl;obtain⟨k,hk,rfl⟩:=US.1 hl;obtain⟨q,hq⟩:=Ui hk;exact(hls q k (by rw[hlt];exact(T0.1 hq).1) hq).2
  have hllen:∀l∈lists,l.length<=1024:=fun l hl=>by
   rw[hlv] at hl;obtain⟨k,hk,rfl⟩:=US.1 hl;obtain⟨k0,k1⟩:=hkids k hk;exact(h.vals k0 (by omega)).1
  rw[←hlv] at hpr ⊢;clear hpb hpg hls hlv hres hf;refine Rr ?_;refine aM (bY rfl (bY rfl (bY rfl (bY rfl (bY (UD (by omega)) (bY (sP rfl (by omega) (by omega)) (UD (by omega)))))))) ?_;refine Rr ?_;refine bA.at bB (fun p:Nat × List aT=>p.1<=total/\p.2=((pH lists.reverse).take p.1).map (dO name)/\p.2.length=p.1)
   (fun p=>⟨[(1,.ip (cN ⟨kind,name,lo,hi',ws,ls,vals,kids,.mk vk vn vs vks⟩)),(6,.sl 4 0 kids.length),(12,.sl 5 0 p.1),(53,.int .i64 total),(54,.int .i64 p.1)],RW ns kn [(4,.row 53 1 (encLs lists)),(5,.row 55 4 (aS p.2))],6,98⟩)
   (fun p=>total-p.1) (0,[]) (pK [0,1,2,3,4,5])
   ⟨by simp,by simp,by simp⟩
   (aF _ rfl (fU rfl rfl rfl rfl rfl rfl rfl rfl ⟨aK 4 (encLs_nn _),⟨5,_,rfl,rfl,.nil⟩,trivial⟩) ⟨aQ (.ip' hxn),⟨_,rfl,.slE rfl rfl⟩,⟨_,rfl,.slE rfl rfl⟩,aJ,aJ,trivial⟩) ?_
  rintro⟨k,all⟩ ⟨hkt,hall,hal⟩;simp only at hkt hall hal ⊢;refine Rr ?_;refine aD (fun hb=>?_) (fun hb=>?_)
  ·have hlt2:k<total:=by simpa using hb
   refine Rr ?_;refine aM (bY rfl (bY rfl (bY rfl (bY (UD (by omega)) (bY (UD (by omega)) (bY (sP rfl (by omega) (by omega)) (UD (by omega)))))))) ?_;refine Rr ?_;refine bA.at bB (fun p:Nat × Nat × List aT=>p.1<=kids.length/\p.2.1<=1024/\p.2.2.length=kids.length/\Go.Ax.rowAt (lists.take p.1).reverse p.2.1++p.2.2.drop p.1=Go.Ax.rowAt lists.reverse k)
    (fun p=>⟨[(1,.ip (cN ⟨kind,name,lo,hi',ws,ls,vals,kids,.mk vk vn vs vks⟩)),(6,.sl 4 0 kids.length),(12,.sl 5 0 k),(13,.int .i64 p.2.1),(14,.sl 6 0 kids.length),(15,.int .i64 ((p.1:Int)-1)),(53,.int .i64 total),(54,.int .i64 k)],RW ns kn [(4,.row 53 1 (encLs lists)),(5,.row 55 4 (aS all)),(6,.row 55 4 (aS p.2.2))],7,98⟩)
    (fun p=>p.1) (kids.length,k,List.replicate kids.length (.mk 0 0 [] [])) (pK [0,1,2,3,4,5,6])
    ⟨by simp,by simp only;omega,by simp,by simp only;rw[←hll,UM,U1 (by simp)];simp⟩
    (aF _ rfl (fU rfl rfl rfl rfl rfl rfl rfl rfl ⟨aK 4 (encLs_nn _),aK 5 (bC _),⟨6,_,rfl,rfl,Dv _⟩,trivial⟩) ⟨aQ (.ip' hxn),⟨_,rfl,.slE rfl rfl⟩,⟨_,rfl,.slE rfl rfl⟩,aJ,⟨_,rfl,.slE rfl (by simp)⟩,⟨_,rfl,.w64 (by simp only) ⟨by simp only;omega,by simp only;omega⟩⟩,aJ,aJ,trivial⟩) ?_
   rintro⟨q,kk,row⟩ ⟨hq,hkk,hrl,hrow⟩;simp only at hq hkk hrl hrow ⊢;refine Rr ?_;refine aD (fun hb=>?_) (fun hb=>?_)
   ·obtain⟨q,rfl⟩:∃q',q=q'+1:=⟨q-1,by simp at hb;omega⟩
    obtain⟨l,hl⟩:∃l,lists[q]? = some l:=⟨lists[q],Ty (by omega)⟩
    have hlm:=UA hl;have hl0:=U9.2 (hlne l hlm);have hl1:=hllen l hlm;have hmod:=VY kk hl0;have hdiv:=WJ kk l.length;obtain⟨v1,v2,v3,v4,vm,vg,-,ev⟩:=bZ (l:=l) (k:=kk%l.length) hmod;have hrs:=HU (kk:=kk) hl vg;have e0:0+((q:Nat):Int).toNat=q:=by simp
    have g1:Nat.blt ((q:Nat):Int).toNat kids.length=true:=T8 (by simp;omega);have e3:(encLs lists)[0+((q:Nat):Int).toNat]? = some (.il 4 (aS l)):=by rw[e0];exact encLs_get hl
    have e15:((q+1:Nat):Int)-1=(q:Int):=by omega
    rw[e15];refine Rr ?_;have d0:(!decide (((aS l).length:Int)=0))=true:=by rw[aB,Bool.not_eq_true',Vl];omega
    have em:(kk:Int).tmod ((aS l).length:Int)=((kk%l.length:Nat):Int):=by rw[aB];exact(Int.ofNat_tmod kk l.length).symm
    have ed:(kk:Int).tdiv ((aS l).length:Int)=((kk/l.length:Nat):Int):=by rw[aB];exact(Int.ofNat_tdiv kk l.length).symm
    have ex:(aS row)[0+((q:Nat):Int).toNat]? = some (cK row[q]):=by rw[e0,kE,Ty (by omega)];rfl
    have ey:((aS row).set (0+((q:Nat):Int).toNat) (cK (.mk v1 v2 v3 v4)))[0+((q:Nat):Int).toNat]? = some (cK (.mk v1 v2 v3 v4)):=by rw[e0];exact Uu (by rw[aB];omega)
    generalize row[q]=old at ex;obtain⟨o1,o2,o3,o4⟩:=old;repeat((first|refine aM g1 ?_|refine aC e3 ?_|refine aC ev ?_|refine aC ex ?_|refine aC ey ?_|refine dN.2 ?_|refine bH ?_|refine aM d0 ?_;(first|rw[em]|rw[ed]|skip));refine Rr ?_)
    have hdr:(row.set q (.mk v1 v2 v3 v4)).drop q = .mk v1 v2 v3 v4::row.drop (q+1):=by
     rw[UU (by simp;omega)];simp[List.drop_set]
    have hy:i64 ((kk/l.length:Nat):Int):=by
     have:=hdiv;generalize kk/l.length=d at this ⊢;clear ed;exact⟨by omega,by omega⟩
    have hset:aS (row.set q (.mk v1 v2 v3 v4))=(aS row).set q (cK (.mk v1 v2 v3 v4)):=by rw[iE,iE,Wf]
    exact .mk (q,kk/l.length,row.set q (.mk v1 v2 v3 v4)) (pK [0,1,2,3,4,5,6]) ⟨by simp only;omega,by simp only;omega,by simp only[Vm];exact hrl,by simp only;rw[hdr,←hrow,hrs,Ur];rfl⟩
     (aF _ rfl (fU rfl rfl rfl rfl rfl rfl rfl rfl ⟨aK 4 (encLs_nn _),aK 5 (bC _),⟨6,_,rfl,rfl,.eq (bC _) (by simp only;rw[e0,hset];rfl)⟩,trivial⟩) ⟨aQ (.ip' hxn),⟨_,rfl,.slE rfl rfl⟩,⟨_,rfl,.slE rfl rfl⟩,⟨_,rfl,.w64 (y:=((kk/l.length:Nat):Int)) (by first|exact ed|rfl) hy⟩,⟨_,rfl,.slE rfl rfl⟩,⟨_,rfl,.w64 rfl ⟨by simp only;omega,by simp only;omega⟩⟩,aJ,aJ,trivial⟩) (by simp only;omega)
   ·have hq0:q=0:=by simp at hb;omega
    subst hq0;simp only[Ww,List.reverse_nil,Go.Ax.rowAt,Um,Ub] at hrow;have hmd:=hmade row;simp only at hmd;refine Rr ?_;refine aE.pre bB (mem':=RW ns kn [(4,.row 53 1 (encLs lists)),(5,.row 55 4 (aS all))]) (pK [0,1,2,3,4,5]) (by rfl)
     (fU rfl rfl rfl rfl rfl rfl rfl rfl ⟨aK 4 (encLs_nn _),aK 5 (bC _),trivial⟩)
     (.cons (.same _ (.ip' hxn)) (.cons (.fz' (id:=6) (t:=55) (xs:=aS row) rfl rfl (by rw[aB];omega) (by rw[Ub];exact UB (by rw[aB];omega)) (bC _)) .nil)) ?_
    refine hmd.go ?_;have hr:=Dy lists.reverse k (by rw[←hpr];exact hlt2);rw[←hrow] at hr;obtain⟨⟨m1,m2,m3,m4⟩,hmv⟩:∃mv,mv=dO name row:=⟨_,rfl⟩
    rw[←hmv];refine Rr ?_;refine aM (bT rfl rfl (by simp[aB];omega) (by simp;omega)) ?_;refine Rr ?_;exact .mk (k+1,all++[.mk m1 m2 m3 m4]) [(0,0),(1,1),(2,2),(3,3),(4,4),(8,5)] ⟨by simp only;omega,by
      simp only;rw[hall,List.take_add_one,hr,VP,hmv];rfl,by simp[hal]⟩
     (aF _ rfl (fU rfl rfl rfl rfl rfl rfl rfl rfl ⟨aK 4 (encLs_nn _),⟨8,_,rfl,rfl,.eq (bC _) (by rw[iR];rfl)⟩,trivial⟩) ⟨aQ (.ip' hxn),⟨_,rfl,.slE rfl rfl⟩,⟨_,rfl,.slE rfl (by simp)⟩,aJ,⟨_,rfl,.wp⟩,trivial⟩) (by simp only;omega)
  ·have hlt2:k=total:=by simp at hb;omega
   refine Rr ?_;refine Ar _ kn hk (fU rfl rfl rfl rfl rfl rfl rfl rfl trivial) _ _ (.tup' (.cons (.fz' (id:=5) (t:=55) (xs:=aS all) rfl rfl (by rw[aB];omega) ?_ (bC _)) (.s .nil)));rw[Ub,UB (by rw[aB];omega),hall,hlt2,hpr,←zM,UM]
set_option maxHeartbeats 8000000
theorem SS{ns:List Nd}{n:Nat}(h:gO ns n)(i:Nat)(hi:i<n)(hOf:∀j<i,Nb ns j)(kn:List Bool)(hk:kn.length=ns.length) :
  aE prog [] 184 [.ptr 0 0 0,.int .i64 i] (sM ns kn) 4 (sQ ns i):=by
 obtain⟨x,hx⟩:∃x,ns[i]? = some x:=⟨ns[i]'(by have:=h.hn;omega),Ty _⟩
 have ex:(bD ns)[((i:Nat):Int).toNat]? = some (cN x):=by simp[lG,hx]
 unfold sQ;rw[h.at hi hx];have hG:=h.node hi hx;have hO:=h.nodeOK hi hx;have hxn:=aW x;have hkm:∀k∈x.kids,0<=k/\k<i:=fun k hk=>by
  obtain⟨j,hj⟩:=Ui hk;exact hG.kids j k hj
 have hU:=fun(kids:List Int) (h1:kids.length<=65536) (h2:∀k∈kids,0<=k/\k<i)=>QY h i (by omega) kids h1 h2 hOf kn hk
 have hP:=NP h i (by omega) x hG.klen hkm hOf kn hk;have hb:=hO.bind;have hkl:=hG.klen;have hkd:=hG.kind;have hnum:=cT hG.num;have e0:x.kind=0->dA x (aL ns)=⟨[x.value],false⟩:=fun e=>by unfold dA;rw[T7 e]
 have e1:x.kind=1->dA x (aL ns)=if 1024<=x.hi-x.lo then⟨[],true⟩ else⟨fL x.lo x.hi,false⟩:=fun e=>by unfold dA;rw[T5 (by omega),T7 e]
 have e2:x.kind=2->dA x (aL ns)=mY (aL ns) x.kids:=fun e=>by unfold dA;rw[T5 (by omega),T5 (by omega),T5 (by omega),T5 (by omega)]
 have e3:x.kind=3->dA x (aL ns)=pL (aL ns) x:=fun e=>by unfold dA;rw[T5 (by omega),T5 (by omega),T7 e]
 have e4:x.kind=4->dA x (aL ns)=mY (aL ns) (x.kids.drop 1):=fun e=>by unfold dA;rw[T5 (by omega),T5 (by omega),T5 (by omega),T7 e]
 generalize dA x (aL ns)=res at e0 e1 e2 e3 e4 ⊢;clear hG hO hOf;have hP:x.kind=3->aE prog [] 229 [.ptr 0 0 0,.ip (cN x)] (sM ns kn) 4 (uQ ns res):=fun e=>by rw[e3 e];exact hP
 clear e3;obtain⟨kind,name,lo,hi',ws,ls,vals,kids,⟨vk,vn,vs,vks⟩⟩:=x;simp only at hkm hb hkl hkd hnum e0 e1 e2 e4 hP;refine aG bB func184 rfl ?_;refine Rr ?_;repeat(refine aC ex ?_;refine Rr ?_)
 have call:∀(F:FuncId) (a:List AV) (K:AV->aN->Nat->Prop) (nx:Nat),kH a->aE prog [] F (.ptr 0 0 0::a) (sM ns kn) 4 (uQ ns res)->(∀kn',kn'.length=ns.length->K (.tup [.il 4 (aS res.vals),.bool (!res.many)]) (sM ns kn'++iZ [0,1,2,3] (sM ns kn)) nx)->aE prog [] F (.ptr 0 0 0::a) (sM ns kn) nx K:=fun F a K nx ha hc hK=>by
  refine aE.useI bB [0,1,2,3] hc (by rfl) (.cons (.ptr 0 0 0 0 rfl) (.same ha)) (fH ns kn) (by rfl) ?_;rintro r m k' ⟨kn',hk',rfl,rfl,rfl⟩;exact⟨nn,fH ns kn',by rfl,hK kn' hk'⟩
 rcases(show kind=0∨kind=1∨kind=2∨kind=3∨kind=4 by omega) with rfl|rfl|rfl|rfl|rfl
 ·rw[e0 rfl];refine Rr ?_;repeat(refine aC ex ?_;refine Rr ?_)
  exact Ar _ kn hk (fU rfl rfl rfl rfl rfl rfl rfl rfl trivial) _ _ (.tup' (.cons (.fz' (id:=4) (t:=55) (xs:=aS [.mk vk vn vs vks]) rfl rfl (by rw[aB];simp) rfl (bC _)) (.s .nil)))
 ·rw[e1 rfl];have hw:IntKind.i64.wrap (hi'-lo)=hi'-lo:=bE ⟨by omega,by omega⟩;refine Rr ?_;simp only[hw];refine aD (fun hb=>?_) (fun hb=>?_)
  ·have hb:1024<=hi'-lo:=by simpa using hb
   rw[T7 hb];refine Rr ?_;exact Ar _ kn hk (fH ns kn) _ _ (.tup' (.cons (.nil 4) (.s .nil)))
  ·have hb:¬1024<=hi'-lo:=by simpa using hb
   rw[T5 hb];refine Rr ?_;refine bA.ph 55 4 ?_;refine bA.at bB (fun c:Nat=>c<=(hi'+1-lo).toNat)
    (fun c=>⟨[(6,.ip (cN ⟨1,name,lo,hi',ws,ls,vals,kids,.mk vk vn vs vks⟩)),(7,.sl 4 0 c),(8,.int .i64 (lo+c))],RW ns kn [(4,.row 55 4 (aS (fL lo (lo+c-1))))],5,82⟩)
    (fun c=>(hi'+1-lo).toNat-c) 0 [(0,0),(1,1),(2,2),(3,3),(14,4)] (by simp)
    (aF _ rfl (fU rfl rfl rfl rfl rfl rfl rfl rfl ⟨⟨14,_,rfl,rfl,by rw[show fL lo (lo+((0:Nat):Int)-1)=[] by simp[fL]];exact .nil⟩,trivial⟩) ⟨aQ (.ip' hxn),⟨_,rfl,.nslk 14 4 _ rfl rfl⟩,⟨_,rfl,.int (by simp)⟩,trivial⟩) ?_
   intro c hc;have hrl:∀c:Nat,(fL lo (lo+c-1)).length=c:=fun c=>by simp[fL];omega
   refine Rr ?_;refine aD (fun hb2=>?_) (fun hb2=>?_)
   ·have hb2:lo+c<=hi':=by simpa using hb2
    have hrs:fL lo (lo+((c+1:Nat):Int)-1)=fL lo (lo+c-1)++[.mk 0 (lo+c) [] []]:=by
     unfold fL;rw[show (lo+((c+1:Nat):Int)-1+1-lo).toNat=c+1 by omega,show (lo+(c:Int)-1+1-lo).toNat=c by omega,Wp,VP];rfl
    refine Rr ?_;refine aM (bT rfl rfl (by rw[aB,hrl]) (by simp;omega)) ?_;refine Rr ?_;exact .mk (c+1) [(0,0),(1,1),(2,2),(3,3),(6,4)] (by omega)
     (aF _ rfl (fU rfl rfl rfl rfl rfl rfl rfl rfl ⟨⟨6,_,rfl,rfl,by rw[hrs,iR];exact .snoc rfl (.same (bC _)) (JY 0 (lo+c) [])⟩,trivial⟩) ⟨aQ (.ip' hxn),⟨_,rfl,.slE rfl (by simp)⟩,⟨_,rfl,.wo⟩,trivial⟩) (by omega)
   ·have hb2:¬lo+c<=hi':=by simpa using hb2
    have hcc:lo+c-1=hi':=by omega
    refine Rr ?_;rw[hcc];refine Ar _ kn hk (fU rfl rfl rfl rfl rfl rfl rfl rfl trivial) _ _ (.tup' (.cons (.fz' (id:=4) (t:=55) (xs:=aS (fL lo hi')) rfl rfl (by rw[aB];have:=hrl c;rw[hcc] at this;omega) ?_ (bC _)) (.s .nil)));rw[Ub];exact UB (by rw[aB];have:=hrl c;rw[hcc] at this;omega)
 ·rw[e2 rfl] at call ⊢;refine Rr ?_;refine call _ _ _ _ (.cons (.il' (a8 _)) .nil) (hU kids hkl hkm) fun kn' hk'=>?_
  refine Rr ?_;exact Ar _ kn' hk' (fH ns kn') _ _ (.same _ nn)
 ·refine Rr ?_;refine call _ _ _ _ (.cons (.ip' hxn) .nil) (hP rfl) fun kn' hk'=>?_
  refine Rr ?_;exact Ar _ kn' hk' (fH ns kn') _ _ (.same _ nn)
 ·rw[e4 rfl] at call ⊢;have hb:=hb rfl;refine Rr ?_;refine aM (bY (T8 (by rw[aH];simp;omega)) (bY (T8 (UC _)) (T8 (UC _)))) ?_;have ed:List.take ((bG kids).length-Int.toNat 1) (List.drop (Int.toNat 1) (bG kids))=bG (kids.drop 1):=by
   rw[UB (by simp)];simp[bG]
  rw[ed];refine Rr ?_;refine call _ _ _ _ (.cons (.il' (a8 _)) .nil) (hU (kids.drop 1) (by rw[WE];omega) fun k hk=>hkm k (Us hk)) fun kn' hk'=>?_
  refine Rr ?_;exact Ar _ kn' hk' (fH ns kn') _ _ (.same _ nn)
theorem Tp{ns:List Nd}{n:Nat}(h:gO ns n):∀i<n,Nb ns i:=by
 intro i
 induction i using Nat.strongRecOn with
 | ind i ih=>exact fun hi kn hk=>TQ h i hi kn hk (SS h i hi (fun j hj=>ih j hj (by omega)) kn hk)
set_option maxHeartbeats 8000000
theorem TW(a b:aT)(ha:g5 a):aZ prog [] 112 [cK a,cK b] (.bool (bR a b == 0)):=by
 have hc:=pD a b ha;obtain⟨a1,a2,a3,a4⟩:=a;obtain⟨b1,b2,b3,b4⟩:=b;generalize bR (.mk a1 a2 a3 a4) (.mk b1 b2 b3 b4)=c at hc ⊢;refine aG bB func112 rfl ?_;refine Rr ?_;refine hc.go ?_;refine Rr ?_;exact aA nn ⟨rfl,rfl,rfl⟩
theorem Hc(l m:List aT)(hl:l.length<=4294967296)(hm:m.length<=4294967296)(hok:∀a∈l,g5 a) :
  aZ prog [] 111 [.il 4 (aS l),.il 4 (aS m),.fn (.func 112) [] []] (.bool (cL l m)):=by
 have hE:=fun a ha b=>TW a b (hok a ha)
 refine aG bB func111 rfl ?_;refine Rr ?_;refine aD (fun h=>?_) (fun h=>?_)
 ·have h1:l.length≠m.length:=by rw[aB,aB] at h;simp at h;omega
  have:cL l m=false:=by
   cases e:cL l m with
   | false=>rfl
   | true=>exact absurd (mI e) h1
  rw[this];refine Rr ?_;exact aA nn ⟨rfl,rfl,rfl⟩
 ·have h1:l.length=m.length:=by rw[aB,aB] at h;simp at h;omega
  refine Rr ?_;refine bA.at bB (fun i:Nat=>i<=l.length/\cL l m=cL (l.drop i) (m.drop i)) (fun i=>⟨[(1,.il 4 (aS m)),(2,.fn (.func 112) [] []),(15,.il 4 (aS l)),(16,.int .i64 l.length),(17,.int .i64 i)],[],0,32⟩) (fun i=>l.length-i) 0 [] ⟨by simp,by simp⟩
   (bV ⟨aQ (.il' (bC _)),aJ,aQ (.il' (bC _)),⟨_,rfl,.int (by rw[aB])⟩,aJ,trivial⟩) ?_
  rintro i ⟨hi,hs⟩;refine Rr ?_;refine aD (fun hb=>?_) (fun hb=>?_)
  ·have hil:i<l.length:=by simpa using hb
   obtain⟨p1,p2,p3,p4,pm,pg,pe,ep⟩:=bZ (l:=l) (k:=i) hil;obtain⟨q1,q2,q3,q4,qm,qg,qe,eq⟩:=bZ (l:=m) (k:=i) (by omega);rw[UU hil,UU (show i<m.length by omega),cL,pe,qe] at hs;have hc:=hE _ pm (.mk q1 q2 q3 q4);obtain⟨c,hc0⟩:∃c,c=bR (.mk p1 p2 p3 p4) (.mk q1 q2 q3 q4):=⟨_,rfl⟩
   rw[←hc0] at hc hs;refine Rr ?_;repeat((first|refine aC ep ?_|refine aC eq ?_|refine bH ?_);refine Rr ?_)
   refine hc.go ?_;refine Rr ?_;refine aD (fun h=>?_) (fun h=>?_)
   ·have:decide (c=0)=false:=by simpa using h
    rw[hs,this];refine Rr ?_;exact aA nn ⟨rfl,rfl,rfl⟩
   ·have:decide (c=0)=true:=by simpa using h
    rw[this] at hs;refine Rr ?_;exact .mk (i+1) [] ⟨by omega,hs⟩ (bV ⟨aQ (.il' (bC _)),aJ,aQ (.il' (bC _)),aJ,⟨_,rfl,.wo⟩,trivial⟩) (by omega)
  ·have hil:i=l.length:=by simp at hb;omega
   rw[hil,Vh,h1,Vh,cL] at hs;rw[hs];refine Rr ?_;exact aA nn ⟨rfl,rfl,rfl⟩
set_option maxHeartbeats 8000000
def Fc(ns:List Nd)(ls ss:List Int)(kn:List Bool)(rest:aN):aN:=(0,.row 122 4 [.agg [.il 12 (bD ns),.sl 1 0 ns.length,.sl 2 0 ns.length,.ptr 3 0 0]])::(1,.row 3 1 (bG ls))::(2,.row 3 1 (bG ss)) ::
 (3,.row 195 4 [.agg [.il 12 (bD ns),.sl 4 0 ns.length,.sl 5 0 ns.length,.sl 6 0 ns.length]])::(4,.row 4 1 (kB kn))::(5,.row 53 1 (lB (aL ns) kn))::(6,.row 4 1 (mB (aL ns) kn))::rest
def SM(ns:List Nd)(l1 l2:List AV)(kn:List Bool):aN:=[(0,.row 122 4 [.agg [.il 12 (bD ns),.sl 1 0 ns.length,.sl 2 0 ns.length,.ptr 3 0 0]]),(1,.row 3 1 l1),(2,.row 3 1 l2),
 (3,.row 195 4 [.agg [.il 12 (bD ns),.sl 4 0 ns.length,.sl 5 0 ns.length,.sl 6 0 ns.length]]),(4,.row 4 1 (kB kn)),(5,.row 53 1 (lB (aL ns) kn)),(6,.row 4 1 (mB (aL ns) kn))]
theorem Ru{mem:aN}{σ:List (Nat × Nat)}{ns:List Nd}{N a b c a' b' c':Nat}(h1:lk σ a=some a')(h2:lk σ b=some b')(h3:lk σ c=some c') :
  rI mem σ [.agg [.il 12 (bD ns),.sl a 0 N,.sl b 0 N,.ptr c 0 0]] [.agg [.il 12 (bD ns),.sl a' 0 N,.sl b' 0 N,.ptr c' 0 0]]:=
 .cons (.agg (.cons (.same _ (.il' (aX _))) (.cons (.sl a a' 0 N h1) (.cons (.sl b b' 0 N h2) (.cons (.ptr c c' 0 0 h3) .nil))))) .nil
theorem i8{mem:aN}{σ:List (Nat × Nat)}{ns:List Nd}{kn:List Bool}{ls ss:List Int}{l1 l2:List AV}{rest:aN}(h0:lk σ 0=some 0)(h1:lk σ 1=some 1)(h2:lk σ 2=some 2)(h3:lk σ 3=some 3)(h4:lk σ 4=some 4)(h5:lk σ 5=some 5)(h6:lk σ 6=some 6)
  (m0:lk mem 0=some (.row 122 4 [.agg [.il 12 (bD ns),.sl 1 0 ns.length,.sl 2 0 ns.length,.ptr 3 0 0]])) (m1:lk mem 1=some (.row 3 1 l1)) (m2:lk mem 2=some (.row 3 1 l2)) (e1:l1=bG ls) (e2:l2=bG ss)
  (m3:lk mem 3=some (.row 195 4 [.agg [.il 12 (bD ns),.sl 4 0 ns.length,.sl 5 0 ns.length,.sl 6 0 ns.length]])) (m4:lk mem 4=some (.row 4 1 (kB kn))) (m5:lk mem 5=some (.row 53 1 (lB (aL ns) kn))) (m6:lk mem 6=some (.row 4 1 (mB (aL ns) kn)))
  (hr:dE mem σ rest):dE mem σ (Fc ns ls ss kn rest):=
 ⟨⟨0,_,h0,m0,Ru h1 h2 h3⟩,⟨1,_,h1,m1,.eq (a8 _) e1⟩,⟨2,_,h2,m2,.eq (a8 _) e2⟩,⟨3,_,h3,m3,FJ h4 h5 h6⟩,⟨4,_,h4,m4,.same (yM _)⟩,⟨5,_,h5,m5,.same (AS _ _)⟩,⟨6,_,h6,m6,.same (yO _ _)⟩,hr⟩
theorem lR(ns:List Nd)(ls ss:List Int)(kn:List Bool):dE (Fc ns ls ss kn []) (pK [0,1,2,3,4,5,6]) (Fc ns ls ss kn []):=i8 rfl rfl rfl rfl rfl rfl rfl rfl rfl rfl rfl rfl rfl rfl rfl rfl trivial
theorem nR(l:List Int)(i:Nat)(y:Int):bG (l.set i y)=(bG l).set i (.int .i64 y):=by simp[bG,Wf]
theorem Qg{ns:List Nd}(i:Nat)(x:Nd)(hx:ns[i]? = some x)(hok:rJ x)(hsz:aY x.value<=1048576)(hkl:x.kids.length<=65536)(hkids:∀(j:Nat) (k:Int),x.kids[j]? = some k->0<=k/\k<i)(hkd:0<=x.kind/\x.kind<=4)(h4:4<=x.kind->0<x.kids.length)
  (ls ss:List Int) (kn:List Bool) (hls:ls.length=ns.length) (hss:ss.length=ns.length) (bl:∀y∈ls,0<=y/\y<=1024) (bs:∀y∈ss,0<=y/\y<=1024) :
  aE prog [] 61 [.ptr 0 0 0,.int .i64 i] (Fc ns ls ss kn []) 7 fun r m k=>r = .bool (decide (gZ ls x<=256) && decide (x6 ss x<=1024))/\m=Fc ns (ls.set i (gZ ls x)) (ss.set i (x6 ss x)) kn []/\k=7:=by
 have hil:=(T0.1 hx).1;have ex:(bD ns)[((i:Nat):Int).toNat]? = some (cN x):=by simp[lG,hx]
 have hxn:=aW x;have hL:=Ol ls x hok hkl bl (fun j k hk=>by have:=hkids j k hk;omega) h4 hkd;have hV:=Se x.value hsz;have hP:x6 ss x=if x.kind=0 then(aY x.value:Int) else if x.kind=1 then 1 else if x.kind=3 then 1+Go.Ax.f8 ss x.kids else max 1 (cS ss (eJ x)):=rfl
 have hs:=fun l=>iP (b:=ss) (M:=1024) (by omega) bs l
 have hm:=fun l=>gN (b:=ss) (M:=1024) (by omega) bs l
 have har:eJ x=if x.kind=2 then x.kids else x.kids.drop 1:=rfl
 have hat:=fun q=>lH (b:=ss) (M:=1024) (by omega) bs q
 have eat:∀k:Int,0<=k->k<ss.length->(bG ss)[0+k.toNat]? = some (.int .i64 (dV ss k)):=fun k h0 h1=>by
  have:k.toNat<ss.length:=by omega
  rw[UT,bL,Ty this];unfold dV;rw[T1,Ty this];rfl
 have hM:∀k:Nat,k<x.kids.length->(cS ss (if x.kind=2 then x.kids.take (k+1) else(x.kids.take (k+1)).drop 1))=if 0<k∨x.kind=2 then max (cS ss (if x.kind=2 then x.kids.take k else(x.kids.take k).drop 1)) (dV ss (x.kids.getD k 0)) else cS ss (if x.kind=2 then x.kids.take k else(x.kids.take k).drop 1):=fun k hk=>by
  have eg:x.kids.getD k 0=x.kids[k]:=by rw[T1,Ty hk];rfl
  rw[eg];by_cases e2:x.kind=2
  ·rw[T7 e2,T7 (.inr e2),T7 e2,pT hk]
  ·rw[T5 e2,T5 e2];by_cases e0:0<k
   ·rw[T7 (.inl e0),oD hk e0]
   ·rw[T5 (by omega)];have:k=0:=by omega
    subst this;simp[cS,VB]
 have h0:0+((i:Nat):Int).toNat=i:=by simp
 have g1:Nat.blt ((i:Nat):Int).toNat ns.length=true:=T8 (by simp;omega);generalize hlen:gZ ls x=len at *;generalize hsiz:x6 ss x=siz at *;clear hlen hsiz hok;obtain⟨kind,name,lo,hi',ws,lbs,vals,kids,⟨vk,vn,vs,vks⟩⟩:=x;simp only at hsz hkl hkids hkd h4 hV hP hM;obtain⟨sv,hsv⟩:∃sv,sv=aY (.mk vk vn vs vks):=⟨_,rfl⟩
 rw[←hsv] at hV hP hsz;have f1:(bG ls)[0+((i:Nat):Int).toNat]? = some (.int .i64 ls[i]):=by rw[h0,bL,Ty (by omega)];rfl
 have f2:((bG ls).set (0+((i:Nat):Int).toNat) (.int .i64 len))[0+((i:Nat):Int).toNat]? = some (.int .i64 len):=by rw[h0];exact Uu (by rw[aH];omega)
 have f3:(bG ss)[0+((i:Nat):Int).toNat]? = some (.int .i64 ss[i]):=by rw[h0,bL,Ty (by omega)];rfl
 have f4:∀siz:Int,((bG ss).set (0+((i:Nat):Int).toNat) (.int .i64 siz))[0+((i:Nat):Int).toNat]? = some (.int .i64 siz):=fun siz=>by rw[h0];exact Uu (by rw[aH];omega)
 generalize ls[i]=l0 at f1;generalize ss[i]=s0 at f3;refine aG bB func61 rfl ?_;refine Rt ?_;repeat((first|refine aM g1 ?_|refine aC ex ?_|refine aC f1 ?_|refine aC f2 ?_);refine Rt ?_)
 refine hL.lend bB (.cons (.same _ (.ip' hxn)) (.cons (.fz' (id:=1) (t:=3) (xs:=bG ls) rfl rfl (by rw[aH];omega) (by rw[Ub];exact UB (by rw[aH];omega)) (a8 _)) .nil)) (.int _ _) ?_;refine Rt ?_;repeat((first|refine aM g1 ?_|refine aC ex ?_|refine aC f1 ?_|refine aC f2 ?_);refine Rt ?_)
 obtain⟨d1,hd1⟩:∃d1,d1=decide (len<=256):=⟨_,rfl⟩
 rw[←hd1];have fin:∀(mem:aN) (nx:Nat) {d:Bool},d=(d1 && decide (siz<=1024))->mem=SM ns ((bG ls).set (0+((i:Nat):Int).toNat) (.int .i64 len)) ((bG ss).set (0+((i:Nat):Int).toNat) (.int .i64 siz)) kn ->
   oH 7 (fun r m k=>r = .bool (d1 && decide (siz<=1024))/\m=Fc ns (ls.set i len) (ss.set i siz) kn []/\k=7) (.bool d) mem nx:=by
  rintro mem nx d rfl rfl;exact bJ (n':=7) (m':=Fc ns (ls.set i len) (ss.set i siz) kn []) (pK [0,1,2,3,4,5,6]) rfl (i8 rfl rfl rfl rfl rfl rfl rfl rfl rfl rfl (by rw[h0];exact(nR _ _ _).symm) (by rw[h0];exact(nR _ _ _).symm) rfl rfl rfl rfl trivial) (.same _ nn) ⟨rfl,rfl,rfl⟩
 have fin':∀(mem:aN) (nx:Nat) {d:Bool},d=(d1 && decide (siz<=1024))->mem=SM ns (bG (ls.set i len)) ((bG ss).set (0+((i:Nat):Int).toNat) (.int .i64 siz)) kn ->
   oH 7 (fun r m k=>r = .bool (d1 && decide (siz<=1024))/\m=Fc ns (ls.set i len) (ss.set i siz) kn []/\k=7) (.bool d) mem nx:=by
  rintro mem nx d rfl rfl;exact bJ (n':=7) (m':=Fc ns (ls.set i len) (ss.set i siz) kn []) (pK [0,1,2,3,4,5,6]) rfl (i8 rfl rfl rfl rfl rfl rfl rfl rfl rfl rfl rfl (by rw[h0];exact(nR _ _ _).symm) rfl rfl rfl rfl trivial) (.same _ nn) ⟨rfl,rfl,rfl⟩
 have f2':(bG (ls.set i len))[0+((i:Nat):Int).toNat]? = some (.int .i64 len):=by rw[h0,nR];exact Uu (by rw[aH];omega)
 rcases(show kind=0∨kind=1∨kind=2∨kind=3∨kind=4 by omega) with rfl|rfl|rfl|rfl|rfl
 ·rw[T7 rfl] at hP;subst hP;refine Rr ?_;refine hV.go ?_;refine Rt ?_;repeat((first|refine aM g1 ?_|refine aC f3 ?_|refine aC (f4 _) ?_|refine aC f2 ?_);refine Rt ?_)
  rw[←hd1];clear hd1;cases d1 with
  | true=>
   refine Rr ?_;exact fin _ _ rfl rfl
  | false=>
   refine Rr ?_;exact fin _ _ rfl rfl
 ·rw[T5 (by decide),T7 rfl] at hP;subst hP;refine Rt ?_;repeat((first|refine aM g1 ?_|refine aC f3 ?_|refine aC (f4 _) ?_|refine aC f2 ?_);refine Rt ?_)
  rw[←hd1];clear hd1;cases d1 with
  | true=>
   refine Rr ?_;exact fin _ _ rfl rfl
  | false=>
   refine Rr ?_;exact fin _ _ rfl rfl
 ·rw[T5 (by decide),T5 (by decide),T5 (by decide)] at hP;refine Rr ?_;refine bA.at bB (fun p:Nat × Int=>p.1<=kids.length/\p.2=max 1 (cS ss (kids.take p.1)))
   (fun p=>⟨[(0,.ptr 0 0 0),(1,.int .i64 i),(5,.ip (cN ⟨2,name,lo,hi',ws,lbs,vals,kids,.mk vk vn vs vks⟩)),(6,.int .i64 p.2),(67,.il 1 (bG kids)),(68,.int .i64 kids.length),(69,.int .i64 p.1)],Fc ns (ls.set i len) ss kn [],7,112⟩) (fun p=>kids.length-p.1) (0,1) (pK [0,1,2,3,4,5,6]) ⟨by simp,by simp[cS];omega⟩
   (aF _ rfl (i8 rfl rfl rfl rfl rfl rfl rfl rfl rfl rfl (by rw[h0];exact(nR _ _ _).symm) rfl rfl rfl rfl rfl trivial) ⟨aI,aJ,aQ (.ip' hxn),aJ,aQ (.il' (a8 _)),⟨_,rfl,.int (by rw[aH])⟩,aJ,trivial⟩) ?_
  rintro⟨j,size⟩ ⟨hj,hsize⟩;simp only at hj hsize ⊢;have bsz:=hm (kids.take j);refine Rr ?_;refine aD (fun h=>?_) (fun h=>?_)
  ·have hlt:j<kids.length:=by simpa using h
   have e1:(bG kids)[(j:Int).toNat]? = some (.int .i64 kids[j]):=by rw[T4,bL,Ty hlt];rfl
   obtain⟨q0,q1⟩:=hkids j _ (Ty hlt);have hM:=hM j hlt;have eg:kids.getD j 0=kids[j]:=by rw[T1,Ty hlt];rfl
   rw[eg] at hM;have hM:cS ss (kids.take (j+1))=max (cS ss (kids.take j)) (dV ss kids[j]):=by simpa using hM
   generalize kids[j]=q at e1 q0 q1 hM;obtain⟨q,rfl⟩:=UH q0;have e2:=eat q q0 (by omega);have hq:=hat q;have g2:Nat.blt ((q:Nat):Int).toNat ns.length=true:=T8 (by simp;omega);generalize dV ss q=z at e2 hq hM;refine Rr ?_;repeat((first|refine aM g2 ?_|refine aC e1 ?_|refine aC e2 ?_);refine Rr ?_)
   by_cases k0:0<j
   ·have d0:decide ((j:Int)>0)=true:=by simp;omega
    rw[d0];refine Rr ?_;repeat((first|refine aM g2 ?_|refine aC e1 ?_|refine aC e2 ?_);refine Rr ?_)
    exact .mk (j+1,max size z) (pK [0,1,2,3,4,5,6]) ⟨by simp only;omega,by simp only;rw[hM,hsize];omega⟩
     (aF _ rfl (lR _ _ _ _) ⟨aI,aJ,aQ (.ip' hxn),⟨_,rfl,.int (by simp only;split<;>omega)⟩,aQ (.il' (a8 _)),aJ,⟨_,rfl,.wp⟩,trivial⟩) (by simp only;omega)
   ·have d0:decide ((j:Int)>0)=false:=by simp;omega
    rw[d0];refine Rr ?_;repeat((first|refine aM g2 ?_|refine aC e1 ?_|refine aC e2 ?_);refine Rr ?_)
    exact .mk (j+1,max size z) (pK [0,1,2,3,4,5,6]) ⟨by simp only;omega,by simp only;rw[hM,hsize];omega⟩
     (aF _ rfl (lR _ _ _ _) ⟨aI,aJ,aQ (.ip' hxn),⟨_,rfl,.int (by simp only;split<;>omega)⟩,aQ (.il' (a8 _)),aJ,⟨_,rfl,.wp⟩,trivial⟩) (by simp only;omega)
  ·have hlt:j=kids.length:=by simp at h;omega
   rw[hlt,UM,show cS ss kids=cS ss (eJ ⟨2,name,lo,hi',ws,lbs,vals,kids,.mk vk vn vs vks⟩) from rfl,←hP] at hsize;subst hsize;refine Rt ?_;repeat((first|refine aM g1 ?_|refine aC f3 ?_|refine aC (f4 _) ?_|refine aC f2' ?_);refine Rt ?_)
   rw[←hd1];clear hd1;cases d1 with
   | true=>
    refine Rr ?_;exact fin' _ _ rfl rfl
   | false=>
    refine Rr ?_;exact fin' _ _ rfl rfl
 ·rw[T5 (by decide),T5 (by decide),T7 rfl] at hP;refine Rr ?_;refine bA.at bB (fun p:Nat × Int=>p.1<=kids.length/\p.2=1+Go.Ax.f8 ss (kids.take p.1))
   (fun p=>⟨[(0,.ptr 0 0 0),(1,.int .i64 i),(6,.int .i64 p.2),(45,.il 1 (bG kids)),(46,.int .i64 kids.length),(47,.int .i64 p.1)],Fc ns (ls.set i len) ss kn [],7,112⟩) (fun p=>kids.length-p.1) (0,1) (pK [0,1,2,3,4,5,6]) ⟨by simp,by simp[Go.Ax.f8]⟩
   (aF _ rfl (i8 rfl rfl rfl rfl rfl rfl rfl rfl rfl rfl (by rw[h0];exact(nR _ _ _).symm) rfl rfl rfl rfl rfl trivial) ⟨aI,aJ,aJ,aQ (.il' (a8 _)),⟨_,rfl,.int (by rw[aH])⟩,aJ,trivial⟩) ?_
  rintro⟨j,size⟩ ⟨hj,hsize⟩;simp only at hj hsize ⊢;have bsz:=hs (kids.take j);have btk:(kids.take j).length<=65536:=by simp;omega
  refine Rr ?_;refine aD (fun h=>?_) (fun h=>?_)
  ·have hlt:j<kids.length:=by simpa using h
   have e1:(bG kids)[(j:Int).toNat]? = some (.int .i64 kids[j]):=by rw[T4,bL,Ty hlt];rfl
   obtain⟨q0,q1⟩:=hkids j _ (Ty hlt);have hst:=tS (b:=ss) hlt;generalize kids[j]=q at e1 q0 q1 hst;obtain⟨q,rfl⟩:=UH q0;have e2:=eat q q0 (by omega);have hq:=hat q;have g2:Nat.blt ((q:Nat):Int).toNat ns.length=true:=T8 (by simp;omega);generalize dV ss q=z at e2 hq hst;refine Rr ?_;repeat((first|refine aM g2 ?_|refine aC e1 ?_|refine aC e2 ?_);refine Rr ?_)
   exact .mk (j+1,size+z) (pK [0,1,2,3,4,5,6]) ⟨by simp only;omega,by simp only;rw[hst,hsize];omega⟩
    (aF _ rfl (lR _ _ _ _) ⟨aI,aJ,⟨_,rfl,.w64 rfl ⟨by simp only;omega,by simp only;omega⟩⟩,aQ (.il' (a8 _)),aJ,⟨_,rfl,.wp⟩,trivial⟩) (by simp only;omega)
  ·have hlt:j=kids.length:=by simp at h;omega
   rw[hlt,UM,←hP] at hsize;subst hsize;refine Rt ?_;repeat((first|refine aM g1 ?_|refine aC f3 ?_|refine aC (f4 _) ?_|refine aC f2' ?_);refine Rt ?_)
   rw[←hd1];clear hd1;cases d1 with
   | true=>
    refine Rr ?_;exact fin' _ _ rfl rfl
   | false=>
    refine Rr ?_;exact fin' _ _ rfl rfl
 ·rw[T5 (by decide),T5 (by decide),T5 (by decide)] at hP;refine Rr ?_;refine bA.at bB (fun p:Nat × Int=>p.1<=kids.length/\p.2=max 1 (cS ss ((kids.take p.1).drop 1)))
   (fun p=>⟨[(0,.ptr 0 0 0),(1,.int .i64 i),(5,.ip (cN ⟨4,name,lo,hi',ws,lbs,vals,kids,.mk vk vn vs vks⟩)),(6,.int .i64 p.2),(67,.il 1 (bG kids)),(68,.int .i64 kids.length),(69,.int .i64 p.1)],Fc ns (ls.set i len) ss kn [],7,112⟩) (fun p=>kids.length-p.1) (0,1) (pK [0,1,2,3,4,5,6]) ⟨by simp,by simp[cS];omega⟩
   (aF _ rfl (i8 rfl rfl rfl rfl rfl rfl rfl rfl rfl rfl (by rw[h0];exact(nR _ _ _).symm) rfl rfl rfl rfl rfl trivial) ⟨aI,aJ,aQ (.ip' hxn),aJ,aQ (.il' (a8 _)),⟨_,rfl,.int (by rw[aH])⟩,aJ,trivial⟩) ?_
  rintro⟨j,size⟩ ⟨hj,hsize⟩;simp only at hj hsize ⊢;have bsz:=hm ((kids.take j).drop 1);refine Rr ?_;refine aD (fun h=>?_) (fun h=>?_)
  ·have hlt:j<kids.length:=by simpa using h
   have e1:(bG kids)[(j:Int).toNat]? = some (.int .i64 kids[j]):=by rw[T4,bL,Ty hlt];rfl
   obtain⟨q0,q1⟩:=hkids j _ (Ty hlt);have hM:=hM j hlt;have eg:kids.getD j 0=kids[j]:=by rw[T1,Ty hlt];rfl
   rw[eg] at hM;have hM:0<j->cS ss ((kids.take (j+1)).drop 1)=max (cS ss ((kids.take j).drop 1)) (dV ss kids[j]):=fun hj=>by rw[oD hlt hj]
   generalize kids[j]=q at e1 q0 q1 hM;obtain⟨q,rfl⟩:=UH q0;have e2:=eat q q0 (by omega);have hq:=hat q;have g2:Nat.blt ((q:Nat):Int).toNat ns.length=true:=T8 (by simp;omega);generalize dV ss q=z at e2 hq hM;refine Rr ?_;repeat((first|refine aM g2 ?_|refine aC e1 ?_|refine aC e2 ?_);refine Rr ?_)
   by_cases k0:0<j
   ·have d0:decide ((j:Int)>0)=true:=by simp;omega
    rw[d0];refine Rr ?_;repeat((first|refine aM g2 ?_|refine aC e1 ?_|refine aC e2 ?_);refine Rr ?_)
    exact .mk (j+1,max size z) (pK [0,1,2,3,4,5,6]) ⟨by simp only;omega,by simp only;rw[hM k0,hsize];omega⟩
     (aF _ rfl (lR _ _ _ _) ⟨aI,aJ,aQ (.ip' hxn),⟨_,rfl,.int (by simp only;split<;>omega)⟩,aQ (.il' (a8 _)),aJ,⟨_,rfl,.wp⟩,trivial⟩) (by simp only;omega)
   ·have d0:decide ((j:Int)>0)=false:=by simp;omega
    rw[d0];refine Rr ?_;repeat((first|refine aM g2 ?_|refine aC e1 ?_|refine aC e2 ?_);refine Rr ?_)
    have j0:j=0:=by omega
    subst j0;exact .mk (1,size) (pK [0,1,2,3,4,5,6]) ⟨by simp only;omega,by simp only;rw[hsize];simp[VB]⟩
     (aF _ rfl (lR _ _ _ _) ⟨aI,aJ,aQ (.ip' hxn),aJ,aQ (.il' (a8 _)),aJ,⟨_,rfl,.wp⟩,trivial⟩) (by simp only;omega)
  ·have hlt:j=kids.length:=by simp at h;omega
   rw[hlt,UM,show cS ss (kids.drop 1)=cS ss (eJ ⟨4,name,lo,hi',ws,lbs,vals,kids,.mk vk vn vs vks⟩) from rfl,←hP] at hsize;subst hsize;refine Rt ?_;repeat((first|refine aM g1 ?_|refine aC f3 ?_|refine aC (f4 _) ?_|refine aC f2' ?_);refine Rt ?_)
   rw[←hd1];clear hd1;cases d1 with
   | true=>
    refine Rr ?_;exact fin' _ _ rfl rfl
   | false=>
    refine Rr ?_;exact fin' _ _ rfl rfl
theorem Q5{ns:List Nd}{n:Nat}(h:gO ns n)(x:Nd)(hvl:x.values.length<=1000000)(hk4:x.kind=4->∃k:Nat,x.kids[0]? = some (k:Int)/\k<n)(ls ss:List Int)(kn:List Bool)(hk:kn.length=ns.length) :
  aE prog [] 62 [.ptr 0 0 0,.ip (cN x)] (Fc ns ls ss kn []) 7 fun r m k=>∃kn',kn'.length=ns.length /\
   r = .int .i64 (if x.kind=4 then(if (dB (aL ns) (x.kids.getD 0 0)).many=true then 4 else if cL (dB (aL ns) (x.kids.getD 0 0)).vals x.values=true then 0 else 1) else 0)/\m=Fc ns ls ss kn' []/\k=7:=by
 have hxn:=aW x;generalize hres:(if x.kind=4 then(if (dB (aL ns) (x.kids.getD 0 0)).many=true then 4 else if cL (dB (aL ns) (x.kids.getD 0 0)).vals x.values=true then 0 else 1) else(0:Int))=res;have fin:∀(kn':List Bool) (mem:aN) (nx:Nat) (c:Int),kn'.length=ns.length->c=res->dE mem (pK [0,1,2,3,4,5,6]) (Fc ns ls ss kn' []) ->
   oH 7 (fun r m k=>∃kn',kn'.length=ns.length/\r = .int .i64 res/\m=Fc ns ls ss kn' []/\k=7) (.int .i64 c) mem nx:=by
  rintro kn' mem nx c hk' rfl hM;exact bJ (n':=7) (m':=Fc ns ls ss kn' []) (pK [0,1,2,3,4,5,6]) rfl hM (.same _ nn) ⟨kn',hk',rfl,rfl,rfl⟩
 by_cases e4:x.kind=4
 ·obtain⟨k,hkg,hkn⟩:=hk4 e4;have eg:x.kids.getD 0 0=(k:Int):=by rw[T1,hkg];rfl
  rw[T7 e4,eg] at hres;have ek:(bG x.kids)[(0:Int).toNat]? = some (.int .i64 k):=by rw[show (0:Int).toNat=0 from rfl,bL,hkg];rfl
  have hO:=Tp h k hkn kn hk;have hv:=h.vals (k:=k) (by omega) (by omega);obtain⟨lk,hlk⟩:∃lk,lk=dB (aL ns) k:=⟨_,rfl⟩
  unfold sQ at hO;rw[←hlk] at hv hres;simp only[←hlk] at hO;obtain⟨lv,lm⟩:=lk;simp only at hv hres;have hE:=fun l (hl:l.length<=1024) hok=>Hc l x.values (by omega) (by omega) hok
  obtain⟨kind,name,lo,hi',ws,lbs,vals,kids,⟨vk,vn,vs,vks⟩⟩:=x;simp only at e4 ek hvl hE hres;subst e4;refine aG bB func62 rfl ?_;refine Rr ?_;repeat((first|refine aC ek ?_|refine bH ?_);refine Rr ?_)
  refine aE.useR bB [(3,0),(4,1),(5,2),(6,3)] hO (by rfl) (.cons (.ptr 3 0 0 0 rfl) (.s .nil)) ⟨⟨3,_,rfl,rfl,FJ rfl rfl rfl⟩,aK 4 (yM _),aK 5 (AS _ _),aK 6 (yO _ _),trivial⟩ (by rfl) ?_;rintro r m nn' ⟨kn',hk',rfl,rfl,rfl⟩;refine⟨[(3,.row 195 4 [.agg [.il 12 (bD ns),.sl 4 0 ns.length,.sl 5 0 ns.length,.sl 6 0 ns.length]]),(4,.row 4 1 (kB kn')),(5,.row 53 1 (lB (aL ns) kn')),(6,.row 4 1 (mB (aL ns) kn'))],nn,⟨⟨0,_,rfl,rfl,FJ rfl rfl rfl⟩,aK 1 (yM _),aK 2 (AS _ _),aK 3 (yO _ _),trivial⟩,by rfl, ?_⟩;cases lm with
  | true=>
   refine Rr ?_;refine fin kn' _ _ _ hk' (by rw[←hres];simp) ?_;exact i8 rfl rfl rfl rfl rfl rfl rfl rfl rfl rfl rfl rfl rfl rfl rfl rfl trivial
  | false=>
   have hE:=hE lv hv.1 hv.2;obtain⟨sv,hsv⟩:∃sv,sv=cL lv vals:=⟨_,rfl⟩
   rw[←hsv] at hE hres;refine Rr ?_;refine hE.go ?_;cases sv with
   | true=>
    refine Rr ?_;refine fin kn' _ _ _ hk' (by rw[←hres];simp) ?_;exact i8 rfl rfl rfl rfl rfl rfl rfl rfl rfl rfl rfl rfl rfl rfl rfl rfl trivial
   | false=>
    refine Rr ?_;refine fin kn' _ _ _ hk' (by rw[←hres];simp) ?_;exact i8 rfl rfl rfl rfl rfl rfl rfl rfl rfl rfl rfl rfl rfl rfl rfl rfl trivial
 ·rw[T5 e4] at hres;obtain⟨kind,name,lo,hi',ws,lbs,vals,kids,⟨vk,vn,vs,vks⟩⟩:=x;simp only at e4;refine aG bB func62 rfl ?_;refine Rr ?_;refine aD (fun _=>?_) (fun h=>absurd (by simpa using h) e4);refine Rr ?_;exact fin kn _ _ _ hk hres (lR _ _ _ _)
set_option maxHeartbeats 8000000
theorem Qx(n:Nat):kB (List.replicate n false)=List.replicate n (.bool false):=by simp[kB]
theorem Q9(L:List iB):lB L (List.replicate L.length false)=encLs (List.replicate L.length []):=by
 unfold lB encLs
 induction L with
 | nil=>rfl
 | cons a L ih=>simpa[VF] using ih
theorem QX(L:List iB):mB L (List.replicate L.length false)=List.replicate L.length (.bool false):=by
 unfold mB
 induction L with
 | nil=>rfl
 | cons a L ih=>simpa[VF] using ih
theorem MU(ns:List Nd)(hl:ns.length<=4096):aE prog [] 56 [.agg [.il 12 (bD ns)]] [] 0 fun r m k=>r = .ptr 0 0 0/\m=sM ns (List.replicate ns.length false)/\k=4:=by
 have hlen:(bD ns).length=ns.length:=cO ns;refine aG bB func56 rfl ?_;refine Rr ?_;rw[hlen];refine Rr ?_;refine aM (bY rfl (bY rfl (bY rfl (bY (UD (by omega)) (bY (UD (by omega)) (bY (sP rfl (by omega) (by omega)) (UD (by omega)))))))) ?_;refine Rr ?_;repeat((first|refine aM (bY rfl (bY rfl (bY rfl (bY (UD (by omega)) (bY (UD (by omega)) (bY (sP rfl (by omega) (by omega)) (UD (by omega)))))))) ?_|refine bH ?_);refine Rr ?_)
 have e:((ns.length:Nat):Int).toNat=ns.length:=by simp
 rw[e];have hL:(aL ns).length=ns.length:=dL ns;have e2:=Q9 (aL ns);have e3:=QX (aL ns);rw[hL] at e2 e3;refine bJ (n':=4) (m':=sM ns (List.replicate ns.length false)) [(10,0),(4,1),(6,2),(8,3)] rfl ⟨⟨10,_,rfl,rfl,FJ rfl rfl rfl⟩,⟨4,_,rfl,rfl,.eq (yM _) (Qx _).symm⟩,⟨6,_,rfl,rfl,by rw[e2];exact BW _⟩,⟨8,_,rfl,rfl,.eq (yO _ _) e3.symm⟩,trivial⟩ (.ptr 10 0 0 0 rfl) ⟨rfl,rfl,rfl⟩
structure MV(ns:List Nd):Prop where
 ok:∀x∈ns,rJ x
 val:∀x∈ns,aY x.value<=1048576
 vals:∀x∈ns,∀v∈x.values,aY v<=1048576
 vlen:∀x∈ns,x.values.length<=1000000
 klen:∀x∈ns,x.kids.length<=65536
def FV(l:List Int)(n:Nat):List Int:=l++List.replicate (n-l.length) 0
theorem CI{l:List Int}{n:Nat}(h:l.length<=n):(FV l n).length=n:=by simp[FV];omega
theorem JO{l:List Int}{n:Nat}(y:Int)(h:l.length<n):(FV l n).set l.length y=FV (l++[y]) n:=by
 unfold FV;rw[WL _ _ (UC _),Wu];obtain⟨m,hm⟩:∃m,n-l.length=m+1:=⟨n-l.length-1,by omega⟩
 rw[hm,VF,Wb,UV,Ut,show n-(l.length+1)=m by omega];simp
theorem JR{l:List Int}{n:Nat}{k:Int}(h0:0<=k)(h1:k<l.length):dV (FV l n) k=dV l k:=Ip h0 h1
theorem Jd{l:List Int}{n:Nat}(h:∀y∈l,0<=y/\y<=1024):∀y∈FV l n,0<=y/\y<=1024:=by
 intro y hy;rcases UI.1 hy with hy|hy
 ·exact h y hy
 ·have:=WW hy;omega
theorem FE{i:Int}{x:Nd}(h:pU x=false):c7 i x=false:=by
 cases e:c7 i x with
 | false=>rfl
 | true=>
  unfold c7 at e;simp only[Tz] at e;have:pU x=true:=by
   unfold pU;rw[e.1.1.1.1.1.1];simpa using e.1.1.1.1.1.2
  rw[this] at h;cases h
theorem DZ{i:Int}{x:Nd}(h:c7 i x=false):fF i x=1:=by unfold fF;rw[T7 h]
theorem L4{i:Int}{x:Nd}(h:c7 i x=true)(h2:dS (nL x)≠0):fF i x=dS (nL x):=by unfold fF;rw[T5 (by rw[h];simp),T7 h2]
theorem Mu{i:Int}{x:Nd}(h:c7 i x=true)(h2:dS (nL x)=0)(h3:dG x=false):fF i x=5:=by unfold fF;rw[T5 (by rw[h];simp),T5 (by omega),T7 h3]
theorem J8{i:Int}{x:Nd}(h:c7 i x=true)(h2:dS (nL x)=0)(h3:dG x=true):fF i x=0:=by unfold fF;rw[T5 (by rw[h];simp),T5 (by omega),T5 (by rw[h3];simp)]
theorem tR{b:List Nd}{ls ss:List Int}{x:Nd}{e:Int}(h:fF b.length x=e)(he:e≠0):gM b ls ss x=e:=by unfold gM;rw[T7 (by rw[h];exact he),h]
theorem NH{b:List Nd}{ls ss:List Int}{x:Nd}(h:fF b.length x=0)(h2:256<gZ ls x∨1024<kY ss x):gM b ls ss x=4:=by unfold gM;rw[T5 (by omega),T7 h2]
theorem LW{b:List Nd}{ls ss:List Int}{x:Nd}(h:fF b.length x=0)(h2:¬(256<gZ ls x∨1024<kY ss x)):gM b ls ss x=if x.kind=4 then fZ b x else 0:=by unfold gM;rw[T5 (by omega),T5 h2]
theorem Cr(ns:List Nd)(h:MV ns):aZ prog [] 19 [.agg [.il 12 (bD ns)]] (.int .i64 (dD ns)):=by
 have hlen:(bD ns).length=ns.length:=cO ns;refine aG bB func19 rfl ?_;refine Rr ?_;rw[hlen];refine aD (fun hb=>?_) (fun hb=>?_)
 ·have h1:4096<ns.length:=by simp at hb;omega
  have:dD ns=4:=by unfold dD;rw[T7 h1]
  rw[this];refine Rr ?_;exact aA nn ⟨rfl,rfl,rfl⟩
 ·have h1:ns.length<=4096:=by simp at hb;omega
  have:dD ns=cD [] ns:=by unfold dD;rw[T5 (by omega)]
  rw[this];generalize hres:cD [] ns=res;have hN:=MU ns h1;refine Rr ?_;rw[hlen];refine Rr ?_;repeat((first|refine aM (bY rfl (bY rfl (bY rfl (bY (UD (by omega)) (bY (UD (by omega)) (bY (sP rfl (by omega) (by omega)) (UD (by omega)))))))) ?_|refine bH ?_);refine Rr ?_)
  refine aE.useN bB [] hN rfl (.same (.cons (.agg' (.cons (.il' (aX _)) .nil)) .nil)) trivial rfl ?_;rintro r m k ⟨rfl,rfl,rfl⟩;refine⟨[(0,16),(1,17),(2,18),(3,19)],.ptr 16 0 0,[(16,.row 195 4 [.agg [.il 12 (bD ns),.sl 17 0 ns.length,.sl 18 0 ns.length,.sl 19 0 ns.length]]),(17,.row 4 1 (kB (List.replicate ns.length false))),(18,.row 53 1 (lB (aL ns) (List.replicate ns.length false))),(19,.row 4 1 (mB (aL ns) (List.replicate ns.length false)))],20,
   .ptr 0 16 0 0 rfl,⟨⟨0,_,rfl,rfl,FJ rfl rfl rfl⟩,aK 1 (yM _),aK 2 (AS _ _),aK 3 (yO _ _),trivial⟩,rfl, ?_⟩
  refine Rt ?_;have e:((ns.length:Nat):Int).toNat=ns.length:=by simp
  rw[hlen,e];refine bA.at bB (fun p:Nat × List Bool=>p.1<=ns.length/\p.2.length=ns.length/\cD [] (ns.take p.1)=0)
   (fun p=>⟨[(1,.ptr 7 0 0),(3,.ptr 0 0 0),(28,.int .i64 ns.length),(29,.int .i64 p.1)],Fc ns (FV (bQ (ns.take p.1)) ns.length) (FV (cQ (ns.take p.1)) ns.length) p.2 [(7,.row 25 1 [.agg [.il 12 (bD ns)]])],8,64⟩)
   (fun p=>ns.length-p.1) (0,List.replicate ns.length false) [(14,0),(6,1),(10,2),(16,3),(17,4),(18,5),(19,6),(0,7)] ⟨by simp,by simp,rfl⟩
   (aF _ rfl ⟨⟨14,_,rfl,rfl,Ru rfl rfl rfl⟩,⟨6,_,rfl,rfl,.eq (a8 _) (by simp[FV,bQ,bG])⟩,⟨10,_,rfl,rfl,.eq (a8 _) (by simp[FV,cQ,bG])⟩,⟨16,_,rfl,rfl,FJ rfl rfl rfl⟩,aK 17 (yM _),aK 18 (AS _ _),aK 19 (yO _ _),aK 0 (.cons (.agg' (.cons (.il' (aX _)) .nil)) .nil),trivial⟩
    ⟨aI,aI,aJ,aJ,trivial⟩) ?_
  rintro⟨i,kn⟩ ⟨hi,hk,hv⟩;simp only at hi hk hv ⊢;refine Rr ?_;refine aD (fun hb2=>?_) (fun hb2=>?_)
  ·have hil:i<ns.length:=by simpa using hb2
   obtain⟨x,hx⟩:∃x,ns[i]? = some x:=⟨ns[i],Ty hil⟩
   have hxe:=(T0.1 hx).2;have hxm:=UA hx;have ex:(bD ns)[((i:Nat):Int).toNat]? = some (cN x):=by simp[lG,hx]
   have hxn:=aW x;have hti:(ns.take i).length=i:=by rw[U4];omega
   have hll:(bQ (ns.take i)).length=i:=by rw[kW,hti]
   have hsl:(cQ (ns.take i)).length=i:=by rw[kO,hti]
   have hsplit:ns=ns.take i++x::ns.drop (i+1):=by rw[←hxe];simp
   have hstop:∀e:Int,gM (ns.take i) (bQ (ns.take i)) (cQ (ns.take i)) x=e->e≠0->e=res:=fun e h1 h2=>by
    rw[←hres,hsplit,AZ hv (by rw[h1];exact h2),h1]
   have hnext:ns.take (i+1)=ns.take i++[x]:=by rw[T9 hil,hxe]
   have hgo:gM (ns.take i) (bQ (ns.take i)) (cQ (ns.take i)) x=0->cD [] (ns.take (i+1))=0:=fun h1=>by
    rw[hnext,fR [] _ _ hv];exact h1
   have hC:=Qq x (h.ok x hxm);have hSh:=Nk ns i x (by omega) hx (h.ok x hxm) (h.vlen x hxm);have hPa:=Q8 x (h.ok x hxm) (h.val x hxm) (h.vals x hxm);have hRa:=RH x (h.ok x hxm);refine Rr ?_;repeat(refine aC ex ?_;refine Rr ?_)
   refine hC.go ?_ (.cons (.ip' hxn) .nil);cases hc:pU x with
   | false=>
    refine Rr ?_;refine aA nn ⟨?_,rfl,rfl⟩;rw[hstop 1 (tR (DZ (FE hc)) (by omega)) (by omega)]
   | true=>
    have hSh:=hSh hc;have hcc:jJ [] [] [.il 12 (bD ns),.sl 1 0 ns.length,.sl 2 0 ns.length,.ptr 3 0 0] [.il 12 (bD ns),.junk,.junk,.junk]:=.cons (.same _ (.il' (aX _))) (.cons (.junk _) (.cons (.junk _) (.cons (.junk _) .nil)));refine Rr ?_;refine hSh.lend bB (.cons (.fzp 0 0 0 122 4 _ _ _ rfl rfl rfl (UC _) fun k c c' h1 h2=>by
     rw[UT] at h1;exact(jJ.cons (.same _ (.il' (aX _))) (.cons (.junk _) (.cons (.junk _) (.cons (.junk _) .nil)))).2 k c c' h1 h2) (.s .nil)) (.bool _) ?_
    clear hcc;cases hf:c7 i x with
    | false=>
     refine Rr ?_;refine aA nn ⟨?_,rfl,rfl⟩;rw[hstop 1 (tR (by rw[hti];exact DZ hf) (by omega)) (by omega)]
    | true=>
     have hk0:x.kind=0->x.values=[]:=fun e0=>by
      unfold c7 jH at hf;simp only[Tz,U5,UJ] at hf;rcases hf.1.1.1.1.1.1.1.2 with h'|h'
      ·omega
      ·exact Ux.1 h'
     have hPa:=hPa hk0;refine Rr ?_;refine hPa.go ?_ (.cons (.ip' hxn) .nil);generalize hfe:dS (nL x)=fe;refine Rr ?_;refine aD (fun hb3=>?_) (fun hb3=>?_)
     ·have h0:fe≠0:=by simpa using hb3
      refine Rr ?_;refine aA nn ⟨?_,rfl,rfl⟩;rw[hstop fe (tR (by rw[hti,L4 hf (by rw[hfe];exact h0),hfe]) h0) h0]
     ·have h0:fe=0:=by simpa using hb3
      rw[h0] at hfe;refine Rr ?_;refine hRa.go ?_ (.cons (.ip' hxn) .nil);cases hn:dG x with
      | false=>
       refine Rr ?_;refine aA nn ⟨?_,rfl,rfl⟩;rw[hstop 5 (tR (by rw[hti];exact Mu hf hfe hn) (by omega)) (by omega)]
      | true=>
       have hz:fF (ns.take i).length x=0:=by rw[hti];exact J8 hf hfe hn
       have hnode:=lQ (i:=i) (x:=x) (by rw[←hti];exact hz);have hlens:=jM _ hv;have hS:=Qg i x hx (h.ok x hxm) (h.val x hxm) (h.klen x hxm) hnode.kids hnode.kind (fun e4=>by have:=hnode.bind (by have:=hnode.kind;omega);omega) (FV (bQ (ns.take i)) ns.length) (FV (cQ (ns.take i)) ns.length) kn (CI (by omega)) (CI (by omega)) (Jd hlens.1) (Jd hlens.2);have hkm:∀k∈x.kids,0<=k/\k<i:=fun k hk=>by
        obtain⟨j,hj⟩:=Ui hk;exact hnode.kids j k hj
       rw[CH (b:=bQ (ns.take i)) (fun k hk=>JR (hkm k hk).1 (by rw[hll];exact(hkm k hk).2)) (fun e4=>by have:=hnode.bind e4;omega) hnode.kind,
        Hz (b:=cQ (ns.take i)) (fun k hk=>JR (hkm k hk).1 (by rw[hsl];exact(hkm k hk).2))] at hS
       refine Rr ?_;refine aE.useI bB [0,1,2,3,4,5,6] hS (by rfl) (.cons (.ptr 0 0 0 0 rfl) (.s .nil)) (lR _ _ _ _) (by rfl) ?_;rintro r m k' ⟨rfl,rfl,rfl⟩;refine⟨nn,lR _ _ _ _,by rfl, ?_⟩;cases hfit:(decide (gZ (bQ (ns.take i)) x<=256) && decide (x6 (cQ (ns.take i)) x<=1024)) with
       | false=>
        have hbig:256<gZ (bQ (ns.take i)) x∨1024<kY (cQ (ns.take i)) x:=by
         simp only[V2,Vl] at hfit;rw[Ig] at hfit;omega
        refine Rr ?_;refine aA nn ⟨?_,rfl,rfl⟩;rw[hstop 4 (NH hz hbig) (by omega)]
       | true=>
        have hfit':¬(256<gZ (bQ (ns.take i)) x∨1024<kY (cQ (ns.take i)) x):=by
         simp only[Tz,UJ] at hfit;rw[Ig] at hfit;omega
        have hstep:=LW hz hfit';have hso:gO ns i:=⟨hi,h1,h.ok,hv⟩
        have hkid:x.kind=4->∃k:Nat,x.kids[0]? = some (k:Int)/\k<i:=fun e4=>by
         have hl:=hnode.bind e4;obtain⟨k0,k1⟩:=hnode.kids 0 x.kids[0] (Ty (by omega));obtain⟨k,hk⟩:=UH k0;exact⟨k,by rw[Ty (by omega),hk],by omega⟩
        have hb:x.kind=4->fZ (ns.take i) x=(if (dB (aL ns) (x.kids.getD 0 0)).many=true then 4 else if cL (dB (aL ns) (x.kids.getD 0 0)).vals x.values=true then 0 else 1):=fun e4=>by
         obtain⟨k,hk,hki⟩:=hkid e4;have eg:x.kids.getD 0 0=(k:Int):=by rw[T1,hk];rfl
         unfold fZ;rw[eg,WF,Ve (by simp;omega),jR (by omega) (by simp;omega) (by simp;omega)]
        have hT:=Q5 hso x (h.vlen x hxm) hkid ((FV (bQ (ns.take i)) ns.length).set i (gZ (bQ (ns.take i)) x)) ((FV (cQ (ns.take i)) ns.length).set i (x6 (cQ (ns.take i)) x)) kn hk;have hstep:gM (ns.take i) (bQ (ns.take i)) (cQ (ns.take i)) x=(if x.kind=4 then(if (dB (aL ns) (x.kids.getD 0 0)).many=true then 4 else if cL (dB (aL ns) (x.kids.getD 0 0)).vals x.values=true then 0 else 1) else 0):=by
         rw[hstep];by_cases e4:x.kind=4
         ·rw[T7 e4,T7 e4,hb e4]
         ·rw[T5 e4,T5 e4]
        rw[←hstep] at hT;refine Rr ?_;refine aE.useI bB [0,1,2,3,4,5,6] hT (by rfl) (.cons (.ptr 0 0 0 0 rfl) (.cons (.same _ (.ip' hxn)) .nil)) (lR _ _ _ _) (by rfl) ?_;rintro r m k' ⟨kn',hk',rfl,rfl,rfl⟩;refine⟨nn,lR _ _ _ _,by rfl, ?_⟩;generalize hse:gM (ns.take i) (bQ (ns.take i)) (cQ (ns.take i)) x=se;refine Rr ?_;refine aD (fun hb4=>?_) (fun hb4=>?_)
        ·have h0:se≠0:=by simpa using hb4
         refine Rr ?_;refine aA nn ⟨?_,rfl,rfl⟩;rw[hstop se hse h0]
        ·have h0:se=0:=by simpa using hb4
         rw[h0] at hse;have hP:=OZ (fun y hy=>h.ok y (Uc hy)) hv hse;have e1:(FV (bQ (ns.take i)) ns.length).set i (gZ (bQ (ns.take i)) x)=FV (bQ (ns.take (i+1))) ns.length:=by
          rw[hnext,lF]
          conv=>lhs;rw[←hll]
          rw[hll];have:=JO (l:=bQ (ns.take i)) (n:=ns.length) (gZ (bQ (ns.take i)) x) (by omega);rw[hll] at this;exact this
         have e2:(FV (cQ (ns.take i)) ns.length).set i (x6 (cQ (ns.take i)) x)=FV (cQ (ns.take (i+1))) ns.length:=by
          rw[hP,hnext,lP];have:=JO (l:=cQ (ns.take i)) (n:=ns.length) (kY (cQ (ns.take i)) x) (by omega);rw[hsl] at this;exact this
         rw[e1,e2];refine Rr ?_;exact .mk (i+1,kn') (pK [0,1,2,3,4,5,6,7]) ⟨by simp only;omega,hk',hgo hse⟩
          (aF _ rfl (i8 rfl rfl rfl rfl rfl rfl rfl rfl rfl rfl rfl rfl rfl rfl rfl rfl ⟨aK 7 (.cons (.agg' (.cons (.il' (aX _)) .nil)) .nil),trivial⟩) ⟨aI,aI,aJ,⟨_,rfl,.wp⟩,trivial⟩) (by simp only;omega)
  ·have hil:i=ns.length:=by simp at hb2;omega
   rw[hil,UM,hres] at hv;subst hv;refine Rr ?_;exact aA nn ⟨rfl,rfl,rfl⟩
set_option maxHeartbeats 16000000
theorem Pf{A:List Nd}(h:VT A):∀i,i<A.length->PA A i:=by
 intro i
 induction i using Nat.strongRecOn with
 | ind i ih=>exact fun hi=>SD h i hi fun j hj=>ih j hj (by omega)
theorem Ix(n:Nat):∃b,gY (qX n) = .agg [.bool false,.il 1 (bM (dg 4294967296 n)),.bool b]:=by
 unfold qX;split
 ·rename_i h;subst h;exact⟨false,by rw[dg];rfl⟩
 ·exact⟨true,rfl⟩
theorem GJ(A:List Nd):aE prog [] 36 [.agg [.il 12 (bD A)]] [] 0 fun r m k=>r = .ptr 0 0 0/\m=q7 A []/\k=2:=by
 have hF:=Lm 1 ⟨by omega,by omega⟩;rw[show (1:Int)=((1:Nat):Int) from rfl,cM] at hF;have nA:=aX A;generalize hN:bD A=N at *;refine aG bB func36 rfl ?_;refine Rr ?_;refine hF.go ?_ (.cons nn .nil) (.agg' (.cons (tB _) (.cons (tU _) .nil)));refine Rt ?_;subst hN;exact bJ (r':=.ptr 0 0 0) (n':=2) (m':=q7 A []) [(6,0),(4,1)] rfl (cR (i:=6) (j:=4) rfl rfl rfl rfl) (.ptr 6 0 0 0 rfl) ⟨rfl,rfl,rfl⟩
theorem QL{A:List Nd}(h:VT A):aE prog [] 35 [.agg [.il 12 (bD A)],.ptr 0 0 0,.agg [.bool false,.nsl]] (q7 A []) 2 fun r m k=>r=fW ((cV.all A (A.length-1):Nat):Int)/\(∃L,m=q7 A L)/\k=2:=by
 have hp:=h.pos;have iA:=Pf h (A.length-1) (by omega);obtain⟨b,hb⟩:=Ix (cV.all A (A.length-1));rw[←uF h (by omega)] at hb;rw[cM];generalize cV.all A (A.length-1)=n at *;have hlen:(bD A).length=A.length:=cO A;have hl:=h.tin.len;refine aG bB func35 rfl ?_;refine Rr ?_;rw[show ((((bD A).length:Nat):Int) == 0)=false from beq_eq_false_iff_ne.2 (by omega)];have hw:IntKind.i64.wrap ((((bD A).length:Nat):Int)-1)=((A.length-1:Nat):Int):=by rw[hlen,bE ⟨by omega,by omega⟩];omega
 refine Rr ?_;rw[hw];refine Rr ?_;refine GH iA (L:=[]) (by simp) rfl hb fun L2 hL2=>?_
 refine Rt ?_;exact bJ (n':=2) (m':=q7 A L2) [(0,0),(1,1)] rfl (cR (i:=0) (j:=1) rfl rfl rfl rfl) (.same _ (.agg' (.cons (tB _) (.cons (tU _) .nil)))) ⟨rfl,⟨L2,rfl⟩,rfl⟩
end Go.Proofs.YtidjhgajglebnaaGreatDoor
