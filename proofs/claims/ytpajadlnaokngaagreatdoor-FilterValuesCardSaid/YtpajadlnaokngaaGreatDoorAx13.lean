/- A part of the proof. -/
import Derived.Test.YtpajadlnaokngaaGreatDoorAx12
import Derived.Test.YtpajadlnaokngaaGreatDoorProg
import Derived.KernelRfl
import Derived.Lib.ItoaMem
import Derived.Lib.AtoiAllCases
set_option linter.unusedVariables false
set_option linter.unusedSimpArgs false
set_option linter.unusedSectionVars false
namespace Go.Proofs.YtpajadlnaokngaaGreatDoor
open Go Go.Ax Go.Proofs Tryz
set_option maxRecDepth 100000
set_option maxHeartbeats 8000000
theorem HU(l m:List aU)(hl:l.length<=4294967296)(hok:∀a∈l,fY a):a7 prog [] 136 [.il 4 (aL l),.il 4 (aL m)] (.bool (cK l m)):=by
 refine aO bD func136 rfl ?_;refine Rr ?_;refine aE (fun h=>?_) (fun h=>?_)
 ·refine Rr ?_;refine aB nn ⟨?_,rfl,rfl⟩;rw[aA,aA] at h;rw[A8 (by simp at h;omega)]
 have hlen:l.length=m.length:=by rw[aA,aA] at h;simp at h;omega
 refine Rr ?_;refine aZ.at bD (fun k:Nat=>k<=l.length/\cK l m=cK (l.drop k) (m.drop k))
  (fun k=>⟨[(0,.il 4 (aL l)),(1,.il 4 (aL m)),(5,.int .i64 k)],[],0,27⟩) (fun k=>l.length-k) 0 [] ⟨by simp,by simp⟩
  (bC ⟨aG,aG,aG,trivial⟩) ?_
 rintro k ⟨hk,hs⟩;refine Rr ?_;refine aE (fun h=>?_) (fun h=>?_)
 ·have hlt:k<l.length:=EF h;obtain⟨p1,p2,p3,p4,pm,pg,pe,ep⟩:=bB (l:=l) (k:=k) hlt;obtain⟨q1,q2,q3,q4,qm,qg,qe,eq⟩:=bB (l:=m) (k:=k) om;have hc:=pN (.mk p1 p2 p3 p4) (.mk q1 q2 q3 q4) (hok _ pm);rw[List.drop_eq_getElem_cons hlt,List.drop_eq_getElem_cons (show k<m.length by omega),pe,qe,cK] at hs;generalize bS (.mk p1 p2 p3 p4) (.mk q1 q2 q3 q4)=c at hc hs;refine Rr ?_;repeat((first|refine aD ep ?_|refine aD eq ?_|refine bN ?_);refine Rr ?_)
  refine hc.go ?_;refine Rr ?_;repeat((first|refine aD ep ?_|refine aD eq ?_|refine bN ?_);refine Rr ?_)
  refine aE (fun h=>?_) (fun h=>?_)
  ·refine Rr ?_;refine aB nn ⟨?_,rfl,rfl⟩;rw[hs,Rd (by simpa using h)];rfl
  ·refine Rr ?_;refine .mk (k+1) [] ⟨om, ?_⟩ (bC ⟨aG,aG,⟨_,rfl,.w64 om ⟨om,om⟩⟩,trivial⟩) om;rw[hs,RE (by simpa using h),Sg]
 ·have hge:l.length<=k:=EG h;refine Rr ?_;refine aB nn ⟨?_,rfl,rfl⟩;rw[hs,Rj om,Rj om,cK]
theorem PJ(x:Nd)(ks:List aU):a7 prog [] 267 [bL x,.il 4 (aL ks)] (bV (dM x.name ks)):=by
 obtain⟨kind,name,lo,hi,ws,ls,vals,kids,⟨vk,vn,vs,vks⟩⟩:=x;refine aO bD func267 rfl ?_;refine Rr ?_;refine aE (fun h=>?_) (fun h=>?_)
 ·have h:name=[]:=by simpa using h
  refine Rr ?_;exact dK (r':=bV (.mk 2 0 [] ks)) (.same _ nn) ⟨by rw[dM,Q3 h],rfl,rfl⟩
 ·have h:¬name=[]:=by simpa using h
  refine Rr ?_;exact dK (r':=bV (.mk 3 0 name ks)) (.same _ nn) ⟨by rw[dM,Qz h],rfl,rfl⟩
theorem NX(i:Nat)(x:Nd)(hi:i<=4294967296)(hx:pL x)(hvl:x.values.length<=4294967290):a7 prog [] 60 [.int .i64 i,bL x] (.int .i64 (dF i x)):=by
 have h1:=JZ i x hi hx;have h2:=Jf x hx;have hval:∀a∈lJ x,a7 prog [] 133 [bV a] (.int .i64 (dW a)):=by
  intro a ha;have key:fY a/\aV a<=4294967296:=by
   unfold lJ at ha;rcases Q9.1 ha with h|h
   ·split at h
    ·simp at h;rw[h];exact⟨hx.value,hx.valueS⟩
    ·cases h
   ·exact hx.valuesI a h
  exact OF a key.1 om
 have hres:dF i x=if cG i x=false then 1 else if cY (lJ x)≠0 then cY (lJ x) else if cU x=false then 5 else 0:=rfl
 generalize dF i x=res at hres;generalize cG i x=fb at h1 hres;generalize cU x=nb at h2 hres;clear hx;obtain⟨kind,name,lo,hi,ws,ls,vals,kids,⟨vk,vn,vs,vks⟩⟩:=x;simp only at hvl;have hown:lJ ⟨kind,name,lo,hi,ws,ls,vals,kids,.mk vk vn vs vks⟩=(if kind=0 then [aU.mk vk vn vs vks] else [])++vals:=rfl;generalize lJ ⟨kind,name,lo,hi,ws,ls,vals,kids,.mk vk vn vs vks⟩=own at hval hres hown;have hol:own.length<=4294967291:=by rw[hown];split<;>simp<;>omega
 refine aO bD func60 rfl ?_;refine Rr ?_;refine h1.go ?_ (.cons (.int _ _) (.cons (aQ _) .nil));cases fb with
 | false=>
  refine Rr ?_;refine aB nn ⟨?_,rfl,rfl⟩;rw[hres,Q3 rfl]
 | true=>
  refine Rr ?_;refine aE (fun h=>?_) (fun h=>?_)
  case' refine_1=>
   have hk:kind=0:=by simpa using h
   rw[Q3 hk] at hown;refine Rr ?_;refine aK (bM rfl rfl (by simp) (by simp[aA];omega)) ?_;refine Rr ?_;refine aZ.at bD (fun k:Nat=>k<=own.length/\cY own=cY (own.drop k))
    (fun k=>⟨[(3,.ptr 0 0 0),(6,.sl 1 0 own.length),(7,.int .i64 k)],[(0,.row 59 12 [bL ⟨kind,name,lo,hi,ws,ls,vals,kids,.mk vk vn vs vks⟩]),(1,.row 57 4 (aL own))],2,45⟩) (fun k=>own.length-k) 0 [(0,0),(3,1)] ⟨by simp,by simp⟩
    (aI _ rfl ⟨aJ 0 (.cons (aQ _) .nil),⟨3,_,rfl,rfl,.eq cC (by rw[hown];rfl)⟩,trivial⟩ ⟨aM,⟨_,rfl,.slE rfl (by rw[hown];simp[aA];omega)⟩,aG,trivial⟩) ?_
  case' refine_2=>
   have hk:¬kind=0:=by simpa using h
   rw[Qz hk] at hown;refine Rr ?_;refine aK (uY rfl (by simp[aA];omega)) ?_;refine Rr ?_;refine aZ.at bD (fun k:Nat=>k<=own.length/\cY own=cY (own.drop k))
    (fun k=>⟨[(3,.ptr 0 0 0),(6,.sl 1 0 own.length),(7,.int .i64 k)],[(0,.row 59 12 [bL ⟨kind,name,lo,hi,ws,ls,vals,kids,.mk vk vn vs vks⟩]),(1,.row 57 4 (aL own))],2,45⟩) (fun k=>own.length-k) 0 [(0,0),(1,1)] ⟨by simp,by simp⟩
    (aI _ rfl ⟨aJ 0 (.cons (aQ _) .nil),⟨1,_,rfl,rfl,.eq cC (by rw[hown];rfl)⟩,trivial⟩ ⟨aM,⟨_,rfl,.slE rfl (by rw[hown];simp[aA])⟩,aG,trivial⟩) ?_
  all_goals
   clear h hown hk;rintro k ⟨hk,hf⟩;refine Rr ?_;refine aE (fun h=>?_) (fun h=>?_)
   ·have hlt:k<own.length:=by simpa using h
    obtain⟨p1,p2,p3,p4,pm,pg,pe,ep,bp⟩:=NF (l:=own) (k:=k) (n:=own.length) hlt rfl;have hv:=hval _ pm;rw[List.drop_eq_getElem_cons hlt,pe,cY] at hf;generalize dW (.mk p1 p2 p3 p4)=e at hv hf;refine Rr ?_;repeat((first|refine aK bp ?_|refine aD ep ?_);refine Rr ?_)
    refine hv.go ?_;refine Rr ?_;refine aE (fun h=>?_) (fun h=>?_)
    ·have h:e≠0:=by simpa using h
     refine Rr ?_;refine aB nn ⟨?_,rfl,rfl⟩;rw[Q3 h] at hf;rw[hres,Qz (by simp),hf,Q3 h]
    ·have h:¬e≠0:=by simpa using h
     rw[Qz h] at hf;refine Rr ?_;exact .mk (k+1) [(0,0),(1,1)] ⟨om,hf⟩ (aI _ rfl ⟨aJ 0 (.cons (aQ _) .nil),aJ 1 cC,trivial⟩ ⟨aM,⟨_,rfl,.sl 1 1 0 _ rfl⟩,⟨_,rfl,.w64 om ⟨om,om⟩⟩,trivial⟩) om
   ·have hge:own.length<=k:=by simpa using h
    rw[Rj hge,cY] at hf;refine Rr ?_;refine h2.go ?_ (.cons (aQ _) .nil);cases nb with
    | false=>
     refine Rr ?_;refine aB nn ⟨?_,rfl,rfl⟩;rw[hres,Qz (by simp),hf,Qz (by simp),Q3 rfl]
    | true=>
     refine Rr ?_;refine aB nn ⟨?_,rfl,rfl⟩;rw[hres,Qz (by simp),hf,Qz (by simp),Qz (by simp)]
set_option maxHeartbeats 8000000
theorem FG(bs:List Int)(x:Nd)(hx:pL x)(hbl:bs.length<=1000000)(hb:∀y∈bs,0<=y/\y<=1024)(hk:∀(j:Nat) (k:Int),x.kids[j]? = some k->0<=k/\k<bs.length)(h4:4<=x.kind->0<x.kids.length)(hkind:0<=x.kind/\x.kind<=4) :
  aF prog [] 61 [.sl 0 0 bs.length,bL x] [(0,.row 3 1 (aW bs))] 1 fun r m _=>∃(len:Nat) (ys:List AV),r = .sl 1 0 len/\m=[(1,.row 3 1 ys)]/\iV ys/\(len=bs.length+1/\ys=aW (bs++[fX bs x])):=by
 have b1:=hx.kids;have b2:=hx.value;have b3:=hx.valueS;clear hx;have hat:=i8 (b:=bs) (M:=1024) om hb;have hsum:=gA (b:=bs) (M:=1024) om hb;have hmost:=hZ (b:=bs) (M:=1024) om hb;obtain⟨kind,name,lo,hi,ws,ls,vals,kids,⟨vk,vn,vs,vks⟩⟩:=x;simp only at b1 b2 b3 hk h4 hkind;have hfin:∀(v:Int) (m:aN) (n id:Nat) (e:Int),lk m id=some (.row 3 1 (aW bs++[.int .i64 e]))->1<=id->e=v->v=fX bs ⟨kind,name,lo,hi,ws,ls,vals,kids,.mk vk vn vs vks⟩ ->
   nF 1 (fun r m _=>∃(len:Nat) (ys:List AV),r = .sl 1 0 len/\m=[(1,.row 3 1 ys)]/\iV ys/\(len=bs.length+1/\ys=aW (bs++[fX bs ⟨kind,name,lo,hi,ws,ls,vals,kids,.mk vk vn vs vks⟩]))) (.sl id 0 (bs.length+1)) m n:=by
  intro v m n id e hid h1 he hv;refine b8 (n':=2) (m':=[(1,.row 3 1 (aW (bs++[v])))]) [(id,1)] ?_ ⟨⟨id,_,by simp[lk],hid,.eq (aT _) (by rw[he];simp[aW])⟩,trivial⟩ (.sl id 1 0 _ (by simp[lk])) ⟨_,_,rfl,rfl,aT _,rfl,by rw[hv]⟩;simp[uG,B8,Go.Ax.t8,wH,xJ]
 refine aO bD func61 rfl ?_;refine Rr ?_;refine aZ.at bD (fun k:Nat=>k<=kids.length)
  (fun k=>⟨[(0,.sl 0 0 bs.length),(3,.ptr 1 0 0),(5,.int .i64 (0+eT bs (kids.take k))),(6,.int .i64 (bX bs (if kind=2 then kids.take k else(kids.take k).drop 1))),(7,.int .i64 k)],[(0,.row 3 1 (aW bs)),(1,.row 59 12 [bL ⟨kind,name,lo,hi,ws,ls,vals,kids,.mk vk vn vs vks⟩])],2,74⟩) (fun k=>kids.length-k) 0 [(0,0),(1,1)] (by simp)
  (aI _ rfl ⟨aJ 0 cC,aJ 1 (.cons (aQ _) .nil),trivial⟩ ⟨⟨_,rfl,.sl 0 0 0 _ rfl⟩,aM,⟨_,rfl,.int rfl⟩,⟨_,rfl,.int (by split<;>rfl)⟩,aG,trivial⟩) ?_
 intro k hkl;have hs1:=hsum (kids.take k);have hlen:(kids.take k).length=k:=by simp;omega
 rw[hlen] at hs1;refine Rr ?_;refine aE (fun h=>?_) (fun h=>?_)
 ·have hlt:k<kids.length:=by rw[aC] at h;simpa using h
  have e1:(aW kids)[(k:Int).toNat]? = some (.int .i64 kids[k]):=by rw[Q4,bK,Qq hlt];rfl
  have hg:kids[k]? = some kids[k]:=Qq hlt;have hst:=sS (b:=bs) hlt;have hmt:=nS (b:=bs) hlt;have hmd:=lC (b:=bs) hlt;generalize kids[k]=q at e1 hg hst hmt hmd;obtain⟨q1,q2⟩:=hk k q hg;have hq:=hat q;obtain⟨qn,rfl⟩:=RB q1;have hqn:qn<bs.length:=om;have e2:(aW bs)[0+(qn:Int).toNat]? = some (.int .i64 (dY bs qn)):=by rw[Rc,Q4,bK,Qq hqn];simp[dY,hqn]
  have bq:Nat.blt (qn:Int).toNat bs.length=true:=Qy (by simp;omega);generalize dY bs qn=av at e2 hst hmt hmd hq;refine Rr ?_;repeat((first|refine aD e1 ?_|refine aK bq ?_|refine aD e2 ?_);refine Rr ?_)
  have hw:IntKind.i64.wrap (0+eT bs (kids.take k)+av)=0+eT bs (kids.take (k+1)):=w64 om ⟨om,om⟩;refine aE (fun h=>?_) (fun h=>?_)
  ·have h2:kind=2:=by simpa using h
   rw[h];refine Rr ?_;exact .mk (k+1) [(0,0),(1,1)] om (aI _ rfl ⟨aJ 0 cC,aJ 1 (.cons (aQ _) .nil),trivial⟩ ⟨⟨_,rfl,.sl 0 0 0 _ rfl⟩,aM,⟨_,rfl,.int hw⟩,⟨_,rfl,.int (by rw[Q3 h2,Q3 h2,hmt];simp;omega)⟩,⟨_,rfl,.w64 om ⟨om,om⟩⟩,trivial⟩) om
  ·have h2:¬kind=2:=by simpa using h
   rw[h];refine Rr ?_;refine aE (fun h=>?_) (fun h=>?_)
   ·have h3:0<k:=by simp at h;omega
    refine Rr ?_;exact .mk (k+1) [(0,0),(1,1)] om (aI _ rfl ⟨aJ 0 cC,aJ 1 (.cons (aQ _) .nil),trivial⟩ ⟨⟨_,rfl,.sl 0 0 0 _ rfl⟩,aM,⟨_,rfl,.int hw⟩,⟨_,rfl,.int (by rw[Qz h2,Qz h2,hmd h3];simp;omega)⟩,⟨_,rfl,.w64 om ⟨om,om⟩⟩,trivial⟩) om
   ·have h3:k=0:=by simp at h;omega
    refine Rr ?_;exact .mk (k+1) [(0,0),(1,1)] om (aI _ rfl ⟨aJ 0 cC,aJ 1 (.cons (aQ _) .nil),trivial⟩ ⟨⟨_,rfl,.sl 0 0 0 _ rfl⟩,aM,⟨_,rfl,.int hw⟩,⟨_,rfl,.int (by rw[Qz h2,Qz h2,h3];cases kids<;>simp)⟩,⟨_,rfl,.w64 om ⟨om,om⟩⟩,trivial⟩) om
 ·have hke:k=kids.length:=by rw[aC] at h;simp at h;omega
  rw[hke,RG] at *;have hm1:=hmost kids;have hm2:=hmost (kids.drop 1);have hs2:=hsum kids;clear hke h;rcases(show kind=0∨kind=1∨kind=2∨kind=3∨kind=4 by omega) with rfl|rfl|rfl|rfl|rfl
  ·refine Rr ?_;refine aK (bM rfl rfl (by rw[aC]) (by simp;omega)) ?_;refine Rr ?_;exact hfin 0 _ _ _ _ rfl (by decide) rfl rfl
  ·refine Rr ?_;refine aK (bM rfl rfl (by rw[aC]) (by simp;omega)) ?_;refine Rr ?_;exact hfin 1 _ _ _ _ rfl (by decide) rfl rfl
  ·rw[Q3 rfl] at *;refine Rr ?_;refine aK (bM rfl rfl (by rw[aC]) (by simp;omega)) ?_;refine Rr ?_;exact hfin (1+bX bs kids) _ _ _ _ rfl (by decide) (w64 rfl ⟨om,om⟩) rfl
  ·refine Rr ?_;refine aK (bM rfl rfl (by rw[aC]) (by simp;omega)) ?_;refine Rr ?_;exact hfin (eT bs kids) _ _ _ _ rfl (by decide) om rfl
  ·rw[Qz om] at *;have hpos:0<kids.length:=h4 om;have e1:(aW kids)[(0:Int).toNat]? = some (.int .i64 (kids.getD 0 0)):=by rw[show (0:Int).toNat=0 from rfl,bK,Qq hpos];simp[hpos]
   obtain⟨q1,q2⟩:=hk 0 (kids.getD 0 0) (by simp[hpos]);have hval:fX bs ⟨4,name,lo,hi,ws,ls,vals,kids,.mk vk vn vs vks⟩=dY bs (kids.getD 0 0)+bX bs (kids.drop 1):=rfl;generalize kids.getD 0 0=q at e1 q1 q2 hval;have hq:=hat q;obtain⟨qn,rfl⟩:=RB q1;have hqn:qn<bs.length:=om;have e2:(aW bs)[0+(qn:Int).toNat]? = some (.int .i64 (dY bs qn)):=by rw[Rc,Q4,bK,Qq hqn];simp[dY,hqn]
   have bq:Nat.blt (qn:Int).toNat bs.length=true:=Qy (by simp;omega);generalize dY bs qn=av at e2 hval hq;refine Rr ?_;repeat((first|refine aD e1 ?_|refine aK bq ?_|refine aD e2 ?_);refine Rr ?_)
   refine aK (bM rfl rfl (by rw[aC]) (by simp;omega)) ?_;refine Rr ?_;exact hfin (av+bX bs (kids.drop 1)) _ _ _ _ rfl (by decide) (w64 rfl ⟨om,om⟩) hval.symm
theorem KY(bs:List Int)(x:Nd)(hx:pL x)(hbl:bs.length<=1000000)(hb:∀y∈bs,0<=y/\y<=1024)(hk:∀(j:Nat) (k:Int),x.kids[j]? = some k->0<=k/\k<bs.length)(h4:4<=x.kind->0<x.kids.length)(hkind:0<=x.kind/\x.kind<=4) :
  aF prog [] 62 [.sl 0 0 bs.length,bL x] [(0,.row 3 1 (aW bs))] 1 fun r m _=>∃(len:Nat) (ys:List AV),r = .sl 1 0 len/\m=[(1,.row 3 1 ys)]/\iV ys/\(len=bs.length+1/\ys=aW (bs++[g5 bs x])):=by
 have b1:=hx.kids;have b2:=hx.value;have b3:=hx.valueS;clear hx;have hat:=i8 (b:=bs) (M:=1024) om hb;have hsum:=gA (b:=bs) (M:=1024) om hb;have hmost:=hZ (b:=bs) (M:=1024) om hb;obtain⟨kind,name,lo,hi,ws,ls,vals,kids,⟨vk,vn,vs,vks⟩⟩:=x;simp only at b1 b2 b3 hk h4 hkind;have hfin:∀(v:Int) (m:aN) (n id:Nat) (e:Int),lk m id=some (.row 3 1 (aW bs++[.int .i64 e]))->1<=id->e=v->v=g5 bs ⟨kind,name,lo,hi,ws,ls,vals,kids,.mk vk vn vs vks⟩ ->
   nF 1 (fun r m _=>∃(len:Nat) (ys:List AV),r = .sl 1 0 len/\m=[(1,.row 3 1 ys)]/\iV ys/\(len=bs.length+1/\ys=aW (bs++[g5 bs ⟨kind,name,lo,hi,ws,ls,vals,kids,.mk vk vn vs vks⟩]))) (.sl id 0 (bs.length+1)) m n:=by
  intro v m n id e hid h1 he hv;refine b8 (n':=2) (m':=[(1,.row 3 1 (aW (bs++[v])))]) [(id,1)] ?_ ⟨⟨id,_,by simp[lk],hid,.eq (aT _) (by rw[he];simp[aW])⟩,trivial⟩ (.sl id 1 0 _ (by simp[lk])) ⟨_,_,rfl,rfl,aT _,rfl,by rw[hv]⟩;simp[uG,B8,Go.Ax.t8,wH,xJ]
 refine aO bD func62 rfl ?_;refine Rr ?_;refine aZ.at bD (fun k:Nat=>k<=kids.length)
  (fun k=>⟨[(0,.sl 0 0 bs.length),(3,.ptr 1 0 0),(5,.int .i64 (1+eT bs (kids.take k))),(6,.int .i64 (bX bs (if kind=2 then kids.take k else(kids.take k).drop 1))),(7,.int .i64 k)],[(0,.row 3 1 (aW bs)),(1,.row 59 12 [bL ⟨kind,name,lo,hi,ws,ls,vals,kids,.mk vk vn vs vks⟩])],2,62⟩) (fun k=>kids.length-k) 0 [(0,0),(1,1)] (by simp)
  (aI _ rfl ⟨aJ 0 cC,aJ 1 (.cons (aQ _) .nil),trivial⟩ ⟨⟨_,rfl,.sl 0 0 0 _ rfl⟩,aM,⟨_,rfl,.int rfl⟩,⟨_,rfl,.int (by split<;>rfl)⟩,aG,trivial⟩) ?_
 intro k hkl;have hs1:=hsum (kids.take k);have hlen:(kids.take k).length=k:=by simp;omega
 rw[hlen] at hs1;refine Rr ?_;refine aE (fun h=>?_) (fun h=>?_)
 ·have hlt:k<kids.length:=by rw[aC] at h;simpa using h
  have e1:(aW kids)[(k:Int).toNat]? = some (.int .i64 kids[k]):=by rw[Q4,bK,Qq hlt];rfl
  have hg:kids[k]? = some kids[k]:=Qq hlt;have hst:=sS (b:=bs) hlt;have hmt:=nS (b:=bs) hlt;have hmd:=lC (b:=bs) hlt;generalize kids[k]=q at e1 hg hst hmt hmd;obtain⟨q1,q2⟩:=hk k q hg;have hq:=hat q;obtain⟨qn,rfl⟩:=RB q1;have hqn:qn<bs.length:=om;have e2:(aW bs)[0+(qn:Int).toNat]? = some (.int .i64 (dY bs qn)):=by rw[Rc,Q4,bK,Qq hqn];simp[dY,hqn]
  have bq:Nat.blt (qn:Int).toNat bs.length=true:=Qy (by simp;omega);generalize dY bs qn=av at e2 hst hmt hmd hq;refine Rr ?_;repeat((first|refine aD e1 ?_|refine aK bq ?_|refine aD e2 ?_);refine Rr ?_)
  have hw:IntKind.i64.wrap (1+eT bs (kids.take k)+av)=1+eT bs (kids.take (k+1)):=w64 om ⟨om,om⟩;refine aE (fun h=>?_) (fun h=>?_)
  ·have h2:kind=2:=by simpa using h
   rw[h];refine Rr ?_;exact .mk (k+1) [(0,0),(1,1)] om (aI _ rfl ⟨aJ 0 cC,aJ 1 (.cons (aQ _) .nil),trivial⟩ ⟨⟨_,rfl,.sl 0 0 0 _ rfl⟩,aM,⟨_,rfl,.int hw⟩,⟨_,rfl,.int (by rw[Q3 h2,Q3 h2,hmt];simp;omega)⟩,⟨_,rfl,.w64 om ⟨om,om⟩⟩,trivial⟩) om
  ·have h2:¬kind=2:=by simpa using h
   rw[h];refine Rr ?_;refine aE (fun h=>?_) (fun h=>?_)
   ·have h3:0<k:=by simp at h;omega
    refine Rr ?_;exact .mk (k+1) [(0,0),(1,1)] om (aI _ rfl ⟨aJ 0 cC,aJ 1 (.cons (aQ _) .nil),trivial⟩ ⟨⟨_,rfl,.sl 0 0 0 _ rfl⟩,aM,⟨_,rfl,.int hw⟩,⟨_,rfl,.int (by rw[Qz h2,Qz h2,hmd h3];simp;omega)⟩,⟨_,rfl,.w64 om ⟨om,om⟩⟩,trivial⟩) om
   ·have h3:k=0:=by simp at h;omega
    refine Rr ?_;exact .mk (k+1) [(0,0),(1,1)] om (aI _ rfl ⟨aJ 0 cC,aJ 1 (.cons (aQ _) .nil),trivial⟩ ⟨⟨_,rfl,.sl 0 0 0 _ rfl⟩,aM,⟨_,rfl,.int hw⟩,⟨_,rfl,.int (by rw[Qz h2,Qz h2,h3];cases kids<;>simp)⟩,⟨_,rfl,.w64 om ⟨om,om⟩⟩,trivial⟩) om
 ·have hke:k=kids.length:=by rw[aC] at h;simp at h;omega
  rw[hke,RG] at *;have hm1:=hmost kids;have hm2:=hmost (kids.drop 1);have hs2:=hsum kids;clear hke h;rcases(show kind=0∨kind=1∨kind=2∨kind=3∨kind=4 by omega) with rfl|rfl|rfl|rfl|rfl
  ·have hz:=K5 (.mk vk vn vs vks) om;have hval:g5 bs ⟨0,name,lo,hi,ws,ls,vals,kids,.mk vk vn vs vks⟩=((aV (.mk vk vn vs vks):Nat):Int):=rfl;generalize aV (.mk vk vn vs vks)=sz at hz hval;refine Rr ?_;refine hz.go ?_;refine Rr ?_;refine aK (bM rfl rfl (by rw[aC]) (by simp;omega)) ?_;refine Rr ?_;exact hfin sz _ _ _ _ rfl (by decide) rfl hval.symm
  ·refine Rr ?_;refine aK (bM rfl rfl (by rw[aC]) (by simp;omega)) ?_;refine Rr ?_;exact hfin 1 _ _ _ _ rfl (by decide) rfl rfl
  ·rw[Q3 rfl] at *;refine Rr ?_;refine aK (bM rfl rfl (by rw[aC]) (by simp;omega)) ?_;refine Rr ?_;exact hfin (bX bs kids) _ _ _ _ rfl (by decide) rfl rfl
  ·refine Rr ?_;refine aK (bM rfl rfl (by rw[aC]) (by simp;omega)) ?_;refine Rr ?_;exact hfin (1+eT bs kids) _ _ _ _ rfl (by decide) rfl rfl
  ·rw[Qz om] at *;refine Rr ?_;refine aK (bM rfl rfl (by rw[aC]) (by simp;omega)) ?_;refine Rr ?_;exact hfin (bX bs (kids.drop 1)) _ _ _ _ rfl (by decide) rfl rfl
end Go.Proofs.YtpajadlnaokngaaGreatDoor
namespace Go.Proofs.YtpajadlnaokngaaGreatDoor
open Go Go.Ax Go.Proofs Tryz
set_option maxRecDepth 100000
theorem Iq{l:List aU}{k:Nat}{v a:aU}(h:l[k]? = some a):D4 l k v=(bS a v == 0):=by simp[D4,h]
theorem Il{l:List aU}{k:Nat}{v:aU}(h:l.length<=k):D4 l k v=false:=by simp[D4,Q8 h]
theorem Pu(l:List aU)(v:aU)(hl:l.length<=4294967296)(hok:∀a∈l,fY a) :
  a7 prog [] 268 [.il 4 (aL l),bV v] (.tup [.int .i64 (gK l v).1,.bool (gK l v).2]):=by
 obtain⟨vk,vn,vs,vks⟩:=v;have nl:NN (.il 4 (aL l)):=.il' (aR l);have nt:∀(k:Int) (b:Bool),NN (.tup [.int .i64 k,.bool b]):=fun k b=>.tup' (.cons (.int _ _) (.cons (.bool _) .nil))
 refine fG bD func268 rfl ?_
 conv=>whnf
 refine dO.loopAt bD (fun k:Nat=>k<=l.length/\∀p a,p<k->l[p]? = some a->bS a (.mk vk vn vs vks)<0)
  (fun k=>⟨[(0,.il 4 (aL l)),(3,.ptr 0 0 0),(6,.int .i64 k)],[(0,.row 57 4 [bV (.mk vk vn vs vks)])],1,27⟩)
  (fun k=>l.length-k) 0 [(0,0)] ⟨by simp,by simp⟩
  (aI _ rfl ⟨aJ 0 (.cons (dS _) .nil),trivial⟩ ⟨a5 nl,aM,a5 (.int _ _),trivial⟩) ?_
 rintro k ⟨h1,h2⟩
 conv=>whnf
 refine aE (fun h=>?_) (fun h=>?_)
 ·have hk:k<l.length:=by rw[aA] at h;simpa using h
  have e:=Dg hk;obtain⟨⟨ak,an,az,aks⟩,hv⟩:∃a,a=l[k]:=⟨_,rfl⟩
  rw[←hv] at e;have hm:aU.mk ak an az aks∈l:=by rw[hv];exact Ra hk
  have hg:l[k]? = some (aU.mk ak an az aks):=by rw[hv];exact Qq hk
  conv=>whnf
  refine aD e ?_
  conv=>whnf
  refine(pN (.mk ak an az aks) (.mk vk vn vs vks) (hok _ hm)).use bD (.cons (dS _) (.cons (dS _) .nil)) (.int _ _) ?_
  conv=>whnf
  refine aE (fun h3=>?_) (fun h3=>?_)
  ·have h3:0<=bS (.mk ak an az aks) (.mk vk vn vs vks):=by simpa using h3
   conv=>whnf
   refine aB (nt _ _) ⟨?_,rfl,rfl⟩;rw[z6 h1 h2 (fun a ha=>by rw[hg] at ha;cases ha;exact h3),Iq hg]
  ·have h3:bS (.mk ak an az aks) (.mk vk vn vs vks)<0:=by simpa using h3
   conv=>whnf
   refine .mk (k+1) [(0,0)] ⟨om,fun p a hp ha=>?_⟩ (aI _ rfl ⟨aJ 0 (.cons (dS _) .nil),trivial⟩ ⟨a5 nl,aM,⟨_,rfl,.eq (.int _ _) ?_⟩,trivial⟩) om
   ·rcases Q6 p k with hp'|hp'
    ·exact h2 p a hp' ha
    ·have:p=k:=om;subst this;rw[hg] at ha;cases ha;exact h3
   ·rw[fH ⟨om,om⟩];rfl
 ·have hk:k=l.length:=by rw[aA] at h;simp at h;omega
  conv=>whnf
  refine aB (nt _ _) ⟨?_,rfl,rfl⟩;rw[z6 h1 h2 (fun a ha=>by rw[Q8 om] at ha;cases ha),Il om,aA,hk]
set_option maxHeartbeats 4000000
theorem QR(k:Int)(b:Bool):Sc (.tup [.int .i64 k,.bool b]):=.tup _ fun j c h=>by
 rcases j with _|_|j<;>simp at h<;>subst h
 ·exact .int _ _
 ·exact .bool _
theorem GO(l:List aU)(hl:l.length<=4294967296)(hok:∀a∈l,fY a) :
  aF prog [] 215 [.il 4 (aL l)] [] 0 fun r m n=>r = .sl 0 0 (c8 l).length/\m=[(0,.row 57 4 (aL (c8 l)))]/\n=1:=by
 have nl:NN (.il 4 (aL l)):=nn;refine aO bD func215 rfl ?_;refine Rr ?_;refine aZ.ph 57 4 ?_;refine aZ.at bD (fun x:Nat × List aU=>x.1<=l.length/\x.2=c8 (l.take x.1))
  (fun x=>⟨[(0,.il 4 (aL l)),(3,.sl 0 0 x.2.length),(4,.int .i64 x.1)],[(0,.row 57 4 (aL x.2))],1,41⟩)
  (fun x=>l.length-x.1) (0,[]) [(0,0)] ⟨by simp,by simp[c8]⟩
  (aI _ rfl ⟨⟨0,_,rfl,rfl,.nil⟩,trivial⟩ ⟨a5 nl,⟨_,rfl,.nslk 0 0 _ rfl rfl⟩,aG,trivial⟩) ?_
 rintro⟨k,out⟩ ⟨h1,h2⟩
 dsimp only at h1 h2 ⊢
 have hout:out.length<=k:=by rw[h2];have:=oR (l.take k);simp at this;omega
 have el:=aA out;have hoko:∀a∈out,fY a:=fun a ha=>by rw[h2] at ha;exact hok a (Rk (nD ha))
 refine Rr ?_;refine aE (fun h=>?_) (fun h=>?_)
 ·have hk:k<l.length:=EF h;obtain⟨ak,an,az,aks,hmem,hg,hv,e⟩:=bB (l:=l) (k:=k) hk;have hnext:c8 (l.take (k+1))=sV out (.mk ak an az aks):=by
   rw[Q0 hk,k7,←h2,hv]
  have hf:=Pu out (.mk ak an az aks) om hoko;have hle:=Az out (.mk ak an az aks);have hins:sV out (.mk ak an az aks)=if (gK out (.mk ak an az aks)).2 then out else out.take (gK out (.mk ak an az aks)).1 ++ .mk ak an az aks::out.drop (gK out (.mk ak an az aks)).1:=rfl
  generalize gK out (.mk ak an az aks)=f at hf hle hins;generalize sV out (.mk ak an az aks)=nw at hnext hins;obtain⟨p,b⟩:=f
  dsimp only at hle hins hf
  refine Rr ?_;refine aD e ?_;refine Rr ?_;refine hf.lend bD (.cons (.fz' rfl rfl (by rw[aA];omega) (by rw[←aA];simp) (aR out)) (.cons (.same _ (dS (.mk ak an az aks))) .nil)) (QR _ _) ?_;cases b with
  | true=>
   refine Rr ?_;rw[Q3 rfl] at hins;exact .mk (k+1,out) [(0,0)] ⟨by simp only;omega,by rw[←hins];exact hnext.symm⟩ (aI _ rfl ⟨aJ 0 cC,trivial⟩ ⟨a5 nl,⟨_,rfl,.sl 0 0 0 _ rfl⟩,⟨_,rfl,.w64 (by simp) ⟨om,om⟩⟩,trivial⟩) (by simp only;omega)
  | false=>
   rw[Qz (by simp)] at hins;refine Rr ?_;repeat(first
    | (refine bN ?_;refine Rr ?_)
    | (refine aD e ?_;refine Rr ?_)
    | (refine aK (PE (by simp;try omega) (by simp;try omega) (by simp;try omega)) ?_;refine Rr ?_)
    | (refine aK (K2 (by simp;try omega)) ?_;refine Rr ?_)
    | (refine aK (uY rfl (by simp;try omega)) ?_;refine Rr ?_)
    | (refine aK (bM rfl rfl (by simp;try omega) (by simp;try omega)) ?_;refine Rr ?_))
   have hrow:List.take ((p:Int).toNat-0) (List.drop (0+0) (aL out))++List.take 1 (List.drop 0 [AV.agg [.int .i64 ak,.int .i64 an,.str az,.il 4 (aL aks)]])++List.take (out.length-(p:Int).toNat) (List.drop (0+(p:Int).toNat) (aL out))=aL nw:=by
    rw[hins];simp[fN,bV,List.map_take,List.map_drop];exact RJ (by simp)
   exact .mk (k+1,nw) [(19,0)] ⟨by simp only;omega,hnext.symm⟩ (aI _ rfl ⟨⟨19,_,rfl,rfl,.eq cC hrow⟩,trivial⟩ ⟨a5 nl,⟨_,rfl,.slE rfl (by have:=congrArg List.length hrow;rw[RY,RY,aA] at this;exact this)⟩,⟨_,rfl,.w64 (by simp) ⟨om,om⟩⟩,trivial⟩) (by simp only;omega)
 ·have hk:k=l.length:=by have:=EG h;omega
  refine Rr ?_;rw[hk,RG] at h2;subst h2;exact b8 (n':=1) (m':=[(0,.row 57 4 (aL (c8 l)))]) [(0,0)] rfl ⟨aJ 0 cC,trivial⟩ (.sl 0 0 0 _ rfl) ⟨rfl,rfl,rfl⟩
theorem N1(l:List aU)(hl:l.length<=4294967296)(hok:∀a∈l,fY a):a7 prog [] 215 [.il 4 (aL l)] (.il 4 (aL (c8 l))):=by
 refine aF.turn bD ((GO l hl hok).mono ?_);rintro r m n ⟨rfl,rfl,rfl⟩;exact dK (.fz' rfl rfl (by rw[aA];omega) (by rw[←aA];simp) cC) ⟨rfl,rfl,rfl⟩
set_option maxHeartbeats 8000000
theorem JQ(x:Nd)(bs:List fK)(h0:x.kind=0):aF prog [] 139 [bL x,.sl 0 0 bs.length] [(0,.row 125 2 (encLs bs))] 1 fun r m _=>r=iX (cE x bs)/\m=[(0,.row 125 2 (encLs bs))]:=by
 have nb:NN (.il 2 (encLs bs)):=.il' (encLs_nn bs);obtain⟨kind,name,lo,hi,ws,ls,vals,kids,⟨vk,vn,vs,vks⟩⟩:=x;simp only at h0;subst h0;refine aO bD func139 rfl ?_;refine Rr ?_;refine b8 (r':=iX ⟨[.mk vk vn vs vks],false⟩) (n':=1) (m':=[(0,.row 125 2 (encLs bs))]) [(0,0)] rfl ⟨aJ 0 (encLs_nn bs),trivial⟩ (.agg' (.cons (.fzR rfl rfl (.cons (E6.same (x:=bV (.mk vk vn vs vks)) nn) .nil) rfl) (.s .nil))) ⟨rfl,rfl⟩
theorem Ff(x:Nd)(bs:List fK)(h1:x.kind=1)(hlo : -4611686018427387904<=x.lo)(hh:x.lo<=x.hi)(hhi:x.hi<=4611686018427387904)(hsp:x.hi<x.lo+1099511627776):aF prog [] 139 [bL x,.sl 0 0 bs.length] [(0,.row 125 2 (encLs bs))] 1 fun r m _=>r=iX (cE x bs)/\m=[(0,.row 125 2 (encLs bs))]:=by
 obtain⟨kind,name,lo,hi,ws,ls,vals,kids,⟨vk,vn,vs,vks⟩⟩:=x;simp only at h1 hlo hh hhi hsp;subst h1;have hres:cE ⟨1,name,lo,hi,ws,ls,vals,kids,.mk vk vn vs vks⟩ bs=if 1024<=hi-lo then⟨[],true⟩ else⟨n7 lo (hi+1-lo).toNat,false⟩:=rfl
 generalize cE ⟨1,name,lo,hi,ws,ls,vals,kids,.mk vk vn vs vks⟩ bs=res at hres;have hw:IntKind.i64.wrap (hi-lo)=hi-lo:=w64 rfl ⟨om,om⟩;refine aO bD func139 rfl ?_;refine Rr ?_;rw[hw];refine aE (fun h=>?_) (fun h=>?_)
 ·refine Rr ?_;exact b8 (r':=iX ⟨[],true⟩) (n':=1) (m':=[(0,.row 125 2 (encLs bs))]) [(0,0)] rfl ⟨aJ 0 (encLs_nn bs),trivial⟩ (.agg' (.cons (.nil 4) (.s .nil))) ⟨by rw[hres,Q3 (by simpa using h)],rfl⟩
 ·have hlt:hi-lo<1024:=by simpa using h
  rw[Qz om] at hres;refine Rr ?_;refine aZ.ph 57 4 ?_;refine aZ.at bD (fun k:Nat=>lo+k<=hi+1)
   (fun k=>⟨[(2,.ptr 1 0 0),(4,.ptr 2 0 0),(5,.ptr 3 0 0),(6,.int .i64 (lo+k))],[(0,.row 125 2 (encLs bs)),(1,.row 59 12 [bL ⟨1,name,lo,hi,ws,ls,vals,kids,.mk vk vn vs vks⟩]),(2,.row 125 2 [.agg [.nsl,.bool false]]),(3,.row 125 2 [.agg [.sl 4 0 (n7 lo k).length,.bool false]]),(4,.row 57 4 (aL (n7 lo k)))],5,96⟩)
   (fun k=>(hi+1-lo).toNat-k) 0 [(0,0),(1,1),(2,2),(3,3),(4,4)] om
   (aI _ rfl ⟨aJ 0 (encLs_nn bs),aJ 1 (.cons (aQ _) .nil),aJ 2 cC,⟨3,_,rfl,rfl,.cons (.agg (.cons (.nslk 4 4 _ rfl rfl) (.s .nil))) .nil⟩,⟨4,_,rfl,rfl,.nil⟩,trivial⟩ ⟨aM,aM,aM,⟨_,rfl,.int (by simp)⟩,trivial⟩) ?_
  intro k hk;have hlen:=Bj lo k;refine Rr ?_;refine aE (fun h=>?_) (fun h=>?_)
  ·have hkl:lo+k<=hi:=by simpa using h
   refine Rr ?_;refine aK (bM rfl rfl (by rw[aA]) (by simp;omega)) ?_;refine Rr ?_;exact .mk (k+1) [(0,0),(1,1),(2,2),(3,3),(6,4)] om
    (aI _ rfl ⟨aJ 0 (encLs_nn bs),aJ 1 (.cons (aQ _) .nil),aJ 2 cC,⟨3,_,rfl,rfl,.cons (.agg (.cons (.slE rfl (by rw[w9];simp)) (.s .nil))) .nil⟩,⟨6,_,rfl,rfl,by rw[w9,fI];exact .snoc rfl (.same cC) (Bx _ _ _)⟩,trivial⟩ ⟨aM,aM,aM,⟨_,rfl,.w64 om ⟨om,om⟩⟩,trivial⟩) om
  ·have hke:k=(hi+1-lo).toNat:=by simp at h;omega
   refine Rr ?_;exact b8 (r':=iX ⟨n7 lo k,false⟩) (n':=1) (m':=[(0,.row 125 2 (encLs bs))]) [(0,0)] rfl ⟨aJ 0 (encLs_nn bs),trivial⟩ (.agg' (.cons (.fzR rfl rfl (.same cC) (by rw[aA])) (.s .nil))) ⟨by rw[hres,hke],rfl⟩
set_option maxHeartbeats 8000000
theorem JR(x:Nd)(bs:List fK)(h2:x.kind=2)(hkl:x.kids.length<=65536)(hk:∀(j:Nat) (k:Int),x.kids[j]? = some k->0<=k/\k<bs.length)(hb:∀b∈bs,b.vals.length<=1024/\∀v∈b.vals,fY v) :
  aF prog [] 139 [bL x,.sl 0 0 bs.length] [(0,.row 125 2 (encLs bs))] 1 fun r m _=>r=iX (cE x bs)/\m=[(0,.row 125 2 (encLs bs))]:=by
 have nb:NN (.il 2 (encLs bs)):=.il' (encLs_nn bs);obtain⟨kind,name,lo,hi,ws,ls,vals,kids,⟨vk,vn,vs,vks⟩⟩:=x;simp only at h2 hkl hk;subst h2;have hres:cE ⟨2,name,lo,hi,ws,ls,vals,kids,.mk vk vn vs vks⟩ bs=jZ bs kids:=rfl;generalize cE ⟨2,name,lo,hi,ws,ls,vals,kids,.mk vk vn vs vks⟩ bs=res at hres;refine aO bD func139 rfl ?_;refine Rr ?_;refine aZ.ph 57 4 ?_;refine aZ.at bD (fun a:Nat × (List aU × Bool)=>a.1<=kids.length/\a.2=(kids.take a.1).foldl (bE bs) ([],false))
  (fun a=>⟨[(1,.sl 0 0 bs.length),(2,.ptr 1 0 0),(4,.ptr 2 0 0),(5,.ptr 3 0 0),(7,.int .i64 a.1)],[(0,.row 125 2 (encLs bs)),(1,.row 59 12 [bL ⟨2,name,lo,hi,ws,ls,vals,kids,.mk vk vn vs vks⟩]),(2,.row 125 2 [.agg [.nsl,.bool false]]),(3,.row 125 2 [.agg [.sl 4 0 a.2.1.length,.bool a.2.2]]),(4,.row 57 4 (aL a.2.1))],5,96⟩)
  (fun a=>kids.length-a.1) (0,[],false) [(0,0),(1,1),(2,2),(3,3),(4,4)] ⟨by simp,by simp⟩
  (aI _ rfl ⟨aJ 0 (encLs_nn bs),aJ 1 (.cons (aQ _) .nil),aJ 2 cC,⟨3,_,rfl,rfl,.cons (.agg (.cons (.nslk 4 4 _ rfl rfl) (.s .nil))) .nil⟩,⟨4,_,rfl,rfl,.nil⟩,trivial⟩ ⟨⟨_,rfl,.sl 0 0 0 _ rfl⟩,aM,aM,aM,⟨_,rfl,.int rfl⟩,trivial⟩) ?_
 rintro⟨k,a1,am⟩ ⟨hkk,ha⟩;simp only at hkk ha;have hbd:=r8 hb (kids.take k) ([],false) 0 (by simp) (by simp);rw[←ha] at hbd;simp only at hbd;have hlk:(kids.take k).length<=65536:=by simp;omega
 have ha1:a1.length<=67108864:=om;refine Rr ?_;refine aE (fun h=>?_) (fun h=>?_)
 ·have hlt:k<kids.length:=by rw[aC] at h;simpa using h
  have e1:(aW kids)[(k:Int).toNat]? = some (.int .i64 kids[k]):=by rw[Q4,bK,Qq hlt];rfl
  have hg:kids[k]? = some kids[k]:=Qq hlt;have hstep:=Fv (bE bs) hlt ([],false);rw[←ha] at hstep;generalize kids[k]=q at e1 hg hstep;obtain⟨q1,q2⟩:=hk k q hg;obtain⟨qn,rfl⟩:=RB q1;have hqn:qn<bs.length:=om;obtain⟨⟨bv,bm⟩,hbe⟩:∃b,b=bs[qn]:=⟨_,rfl⟩
  have hbm:=hb _ (show (⟨bv,bm⟩:fK)∈bs by rw[hbe];exact Ra hqn);simp only at hbm;have hat:cD bs qn=⟨bv,bm⟩:=by rw[hbe];simp[cD,hqn]
  have bq:Nat.blt (qn:Int).toNat bs.length=true:=Qy (by simp;omega);have e2:(encLs bs)[0+(qn:Int).toNat]? = some (iX ⟨bv,bm⟩):=by rw[Rc,Q4,encLs_get,Qq hqn,←hbe];rfl
  have hso:=GO (a1++bv) (by simp;omega) (fun v hv=>by
   rcases Q9.1 hv with h|h
   ·exact hbd.2 v h
   ·exact hbm.2 v h)
  have hun:bE bs (a1,am) qn=(c8 (a1++bv),am || bm || decide (1024<(c8 (a1++bv)).length)):=by simp[bE,hat]
  rw[hun] at hstep;generalize c8 (a1++bv)=sv at hso hstep;refine Rr ?_;refine aD e1 ?_;refine Rr ?_;repeat((first|refine aK bq ?_|refine aD e2 ?_);refine Rr ?_)
  refine aK (bM rfl rfl (by rw[aA]) (by simp[aA];omega)) ?_;refine Rr ?_;refine aF.pre bD [(5,5),(0,0),(1,1),(2,2),(3,3)] (mem':=[(5,.row 125 2 [.agg [.il 4 (aL bv),.bool bm]]),(0,.row 125 2 (encLs bs)),(1,.row 59 12 [bL ⟨2,name,lo,hi,ws,ls,vals,kids,.mk vk vn vs vks⟩]),(2,.row 125 2 [.agg [.nsl,.bool false]]),(3,.row 125 2 [.agg [.junk,.bool am]])]) rfl
   ⟨aJ 5 cC,aJ 0 (encLs_nn bs),aJ 1 (.cons (aQ _) .nil),aJ 2 cC,⟨3,_,rfl,rfl,.cons (.agg (.cons (.junk _) (.s .nil))) .nil⟩,trivial⟩
   (.cons (.fzR (ys:=aL (a1++bv)) rfl rfl (.eq cC (by simp[fN])) (by simp[aA])) .nil) ?_
  refine aF.useNew bD hso cC cC ?_;cases am<;>cases bm
  all_goals
   refine Rr ?_;exact .mk (k+1,sv,_) [(0,0),(1,1),(2,2),(3,3),(7,4)] ⟨by simp only;omega,hstep.symm⟩
    (aI _ rfl ⟨aJ 0 (encLs_nn bs),aJ 1 (.cons (aQ _) .nil),aJ 2 cC,⟨3,_,rfl,rfl,.cons (.agg (.cons (.sl 7 4 0 _ rfl) (.cons (.bool (by simp[Sw]<;>omega)) .nil))) .nil⟩,aJ 7 cC,trivial⟩
     ⟨⟨_,rfl,.sl 0 0 0 _ rfl⟩,aM,aM,aM,⟨_,rfl,.w64 (by simp) ⟨by simp only;omega,by simp only;omega⟩⟩,trivial⟩) (by simp only;omega)
 ·have hke:k=kids.length:=by rw[aC] at h;simp at h;omega
  rw[hke,RG] at ha;have hu:jZ bs kids=if am then⟨[],true⟩ else⟨a1,false⟩:=by
   unfold jZ;rw[←ha]
  cases am with
  | true=>
   refine Rr ?_;exact b8 (r':=iX ⟨[],true⟩) (n':=1) (m':=[(0,.row 125 2 (encLs bs))]) [(0,0)] rfl ⟨aJ 0 (encLs_nn bs),trivial⟩ (.agg' (.cons (.nil 4) (.s .nil))) ⟨by rw[hres,hu,Q3 rfl],rfl⟩
  | false=>
   refine Rr ?_;exact b8 (r':=iX ⟨a1,false⟩) (n':=1) (m':=[(0,.row 125 2 (encLs bs))]) [(0,0)] rfl ⟨aJ 0 (encLs_nn bs),trivial⟩ (.agg' (.cons (.fzR rfl rfl (.same cC) (by rw[aA])) (.s .nil))) ⟨by rw[hres,hu,Qz (by simp)],rfl⟩
set_option maxHeartbeats 8000000
theorem Ic(x:Nd)(bs:List fK)(h2:x.kind=4)(hkl:x.kids.length<=65536)(hk:∀(j:Nat) (k:Int),x.kids[j]? = some k->0<=k/\k<bs.length)(hb:∀b∈bs,b.vals.length<=1024/\∀v∈b.vals,fY v) :
  aF prog [] 139 [bL x,.sl 0 0 bs.length] [(0,.row 125 2 (encLs bs))] 1 fun r m _=>r=iX (cE x bs)/\m=[(0,.row 125 2 (encLs bs))]:=by
 have nb:NN (.il 2 (encLs bs)):=.il' (encLs_nn bs);obtain⟨kind,name,lo,hi,ws,ls,vals,kids,⟨vk,vn,vs,vks⟩⟩:=x;simp only at h2 hkl hk;subst h2;have hres:cE ⟨4,name,lo,hi,ws,ls,vals,kids,.mk vk vn vs vks⟩ bs=jZ bs (kids.drop 1):=rfl;generalize cE ⟨4,name,lo,hi,ws,ls,vals,kids,.mk vk vn vs vks⟩ bs=res at hres;refine aO bD func139 rfl ?_;refine Rr ?_;refine aZ.ph 57 4 ?_;refine aZ.at bD (fun a:Nat × (List aU × Bool)=>a.1<=kids.length/\a.2=((kids.take a.1).drop 1).foldl (bE bs) ([],false))
  (fun a=>⟨[(1,.sl 0 0 bs.length),(2,.ptr 1 0 0),(4,.ptr 2 0 0),(5,.ptr 3 0 0),(7,.int .i64 a.1)],[(0,.row 125 2 (encLs bs)),(1,.row 59 12 [bL ⟨4,name,lo,hi,ws,ls,vals,kids,.mk vk vn vs vks⟩]),(2,.row 125 2 [.agg [.nsl,.bool false]]),(3,.row 125 2 [.agg [.sl 4 0 a.2.1.length,.bool a.2.2]]),(4,.row 57 4 (aL a.2.1))],5,96⟩)
  (fun a=>kids.length-a.1) (0,[],false) [(0,0),(1,1),(2,2),(3,3),(4,4)] ⟨by simp,by simp⟩
  (aI _ rfl ⟨aJ 0 (encLs_nn bs),aJ 1 (.cons (aQ _) .nil),aJ 2 cC,⟨3,_,rfl,rfl,.cons (.agg (.cons (.nslk 4 4 _ rfl rfl) (.s .nil))) .nil⟩,⟨4,_,rfl,rfl,.nil⟩,trivial⟩ ⟨⟨_,rfl,.sl 0 0 0 _ rfl⟩,aM,aM,aM,⟨_,rfl,.int rfl⟩,trivial⟩) ?_
 rintro⟨k,a1,am⟩ ⟨hkk,ha⟩;simp only at hkk ha;have hbd:=r8 hb ((kids.take k).drop 1) ([],false) 0 (by simp) (by simp);rw[←ha] at hbd;simp only at hbd;have hlk:((kids.take k).drop 1).length<=65536:=by simp;omega
 have ha1:a1.length<=67108864:=om;refine Rr ?_;refine aE (fun h=>?_) (fun h=>?_)
 ·have hlt:k<kids.length:=by rw[aC] at h;simpa using h
  have e1:(aW kids)[(k:Int).toNat]? = some (.int .i64 kids[k]):=by rw[Q4,bK,Qq hlt];rfl
  have hg:kids[k]? = some kids[k]:=Qq hlt;refine Rr ?_;refine aE (fun h=>?_) (fun h=>?_)
  ·have hk0:k=0:=by simp at h;omega
   subst hk0;refine Rr ?_;exact .mk (1,a1,am) [(0,0),(1,1),(2,2),(3,3),(4,4)] ⟨by simp only;omega,by rw[ha];cases kids<;>simp⟩
    (aI _ rfl ⟨aJ 0 (encLs_nn bs),aJ 1 (.cons (aQ _) .nil),aJ 2 cC,⟨3,_,rfl,rfl,.cons (.agg (.cons (.sl 4 4 0 _ rfl) (.s .nil))) .nil⟩,aJ 4 cC,trivial⟩ ⟨⟨_,rfl,.sl 0 0 0 _ rfl⟩,aM,aM,aM,⟨_,rfl,.int rfl⟩,trivial⟩) (by simp only;omega)
  have hk0:0<k:=by
   rcases RM k with h'|h'
   ·rw[h'] at h;simp at h
   ·exact h'
  have hstep:=GZ (bE bs) hlt hk0 ([],false);rw[←ha] at hstep;generalize kids[k]=q at e1 hg hstep;obtain⟨q1,q2⟩:=hk k q hg;obtain⟨qn,rfl⟩:=RB q1;have hqn:qn<bs.length:=om;obtain⟨⟨bv,bm⟩,hbe⟩:∃b,b=bs[qn]:=⟨_,rfl⟩
  have hbm:=hb _ (show (⟨bv,bm⟩:fK)∈bs by rw[hbe];exact Ra hqn);simp only at hbm;have hat:cD bs qn=⟨bv,bm⟩:=by rw[hbe];simp[cD,hqn]
  have bq:Nat.blt (qn:Int).toNat bs.length=true:=Qy (by simp;omega);have e2:(encLs bs)[0+(qn:Int).toNat]? = some (iX ⟨bv,bm⟩):=by rw[Rc,Q4,encLs_get,Qq hqn,←hbe];rfl
  have hso:=GO (a1++bv) (by simp;omega) (fun v hv=>by
   rcases Q9.1 hv with h|h
   ·exact hbd.2 v h
   ·exact hbm.2 v h)
  have hun:bE bs (a1,am) qn=(c8 (a1++bv),am || bm || decide (1024<(c8 (a1++bv)).length)):=by simp[bE,hat]
  rw[hun] at hstep;generalize c8 (a1++bv)=sv at hso hstep;refine Rr ?_;refine aD e1 ?_;refine Rr ?_;repeat((first|refine aK bq ?_|refine aD e2 ?_);refine Rr ?_)
  refine aK (bM rfl rfl (by rw[aA]) (by simp[aA];omega)) ?_;refine Rr ?_;refine aF.pre bD [(5,5),(0,0),(1,1),(2,2),(3,3)] (mem':=[(5,.row 125 2 [.agg [.il 4 (aL bv),.bool bm]]),(0,.row 125 2 (encLs bs)),(1,.row 59 12 [bL ⟨4,name,lo,hi,ws,ls,vals,kids,.mk vk vn vs vks⟩]),(2,.row 125 2 [.agg [.nsl,.bool false]]),(3,.row 125 2 [.agg [.junk,.bool am]])]) rfl
   ⟨aJ 5 cC,aJ 0 (encLs_nn bs),aJ 1 (.cons (aQ _) .nil),aJ 2 cC,⟨3,_,rfl,rfl,.cons (.agg (.cons (.junk _) (.s .nil))) .nil⟩,trivial⟩
   (.cons (.fzR (ys:=aL (a1++bv)) rfl rfl (.eq cC (by simp[fN])) (by simp[aA])) .nil) ?_
  refine aF.useNew bD hso cC cC ?_;cases am<;>cases bm
  all_goals
   refine Rr ?_;exact .mk (k+1,sv,_) [(0,0),(1,1),(2,2),(3,3),(7,4)] ⟨by simp only;omega,hstep.symm⟩
    (aI _ rfl ⟨aJ 0 (encLs_nn bs),aJ 1 (.cons (aQ _) .nil),aJ 2 cC,⟨3,_,rfl,rfl,.cons (.agg (.cons (.sl 7 4 0 _ rfl) (.cons (.bool (by simp[Sw]<;>omega)) .nil))) .nil⟩,aJ 7 cC,trivial⟩
     ⟨⟨_,rfl,.sl 0 0 0 _ rfl⟩,aM,aM,aM,⟨_,rfl,.w64 (by simp) ⟨by simp only;omega,by simp only;omega⟩⟩,trivial⟩) (by simp only;omega)
 ·have hke:k=kids.length:=by rw[aC] at h;simp at h;omega
  rw[hke,RG] at ha;have hu:jZ bs (kids.drop 1)=if am then⟨[],true⟩ else⟨a1,false⟩:=by
   unfold jZ;rw[←ha]
  cases am with
  | true=>
   refine Rr ?_;exact b8 (r':=iX ⟨[],true⟩) (n':=1) (m':=[(0,.row 125 2 (encLs bs))]) [(0,0)] rfl ⟨aJ 0 (encLs_nn bs),trivial⟩ (.agg' (.cons (.nil 4) (.s .nil))) ⟨by rw[hres,hu,Q3 rfl],rfl⟩
  | false=>
   refine Rr ?_;exact b8 (r':=iX ⟨a1,false⟩) (n':=1) (m':=[(0,.row 125 2 (encLs bs))]) [(0,0)] rfl ⟨aJ 0 (encLs_nn bs),trivial⟩ (.agg' (.cons (.fzR rfl rfl (.same cC) (by rw[aA])) (.s .nil))) ⟨by rw[hres,hu,Qz (by simp)],rfl⟩
set_option maxHeartbeats 8000000
def jK(l:List (List aU)):List AV:=l.map fun r=>.il 4 (aL r)
theorem gE(l:List (List aU)):iV (jK l):=fun a ha=>by
 obtain⟨n,_,rfl⟩:=RD.1 ha;exact nn
theorem oH(l:List aU):∀rows:List (List aU),(e6 rows l).length=rows.length*l.length
 | []=>by simp[e6]
 | r::rs=>by
  have:=oH l rs;simp only[e6,Sn,RY,SF,R0,Nat.add_mul,SC] at this ⊢;omega
theorem Gc(l:List (List aU))(r:List aU):jK (l++[r])=jK l++[.il 4 (aL r)]:=by simp[jK]
theorem Dk(l:List (List aU)):(jK l).length=l.length:=by simp[jK]
theorem Jj{name:List UInt8}(hn:name.length<=4294967296){r:List aU}(hr:r.length<=4294967296)(ho:∀v∈r,fY v):fY (dM name r):=by
 unfold dM;split
 ·exact jP ⟨om,om⟩ ⟨om,om⟩ (by simp) hr (vB ho)
 ·exact jP ⟨om,om⟩ ⟨om,om⟩ hn hr (vB ho)
theorem QW(x:Nd)(bs:List fK)(hname:x.name.length<=4294967296)(hkl:x.kids.length<=65536)(hk:∀(j:Nat) (k:Int),x.kids[j]? = some k->0<=k/\k<bs.length)(hb:∀b∈bs,b.vals.length<=1024/\∀v∈b.vals,fY v) :
  aF prog [] 214 [bL x,.sl 0 0 bs.length] [(0,.row 125 2 (encLs bs))] 1 fun r m _=>r=iX (nJ bs x)/\m=[(0,.row 125 2 (encLs bs))]:=by
 obtain⟨kind,name,lo,hi,ws,ls,vals,kids,⟨vk,vn,vs,vks⟩⟩:=x;simp only at hkl hk hname;refine aO bD func214 rfl ?_;refine Rr ?_;refine aZ.at bD (fun a:Nat × List (List aU)=>a.1<=kids.length/\a.2.length<=1024/\(∀r∈a.2,r.length<=a.1/\∀v∈r,fY v)/\Go.Ax.d8 bs kids [[]]=Go.Ax.d8 bs (kids.drop a.1) a.2)
  (fun a=>⟨[(1,.sl 0 0 bs.length),(2,.ptr 1 0 0),(4,.ptr 2 0 0),(5,.sl 3 0 a.2.length),(6,.int .i64 a.1)],[(0,.row 125 2 (encLs bs)),(1,.row 59 12 [bL ⟨kind,name,lo,hi,ws,ls,vals,kids,.mk vk vn vs vks⟩]),(2,.row 125 2 [.agg [.nsl,.bool false]]),(3,.row 29 1 (jK a.2))],4,91⟩)
  (fun a=>kids.length-a.1) (0,[[]]) [(0,0),(1,1),(2,2),(3,3)] ⟨by simp,by simp,by simp,by simp⟩
  (aI _ rfl ⟨aJ 0 (encLs_nn bs),aJ 1 (.cons (aQ _) .nil),aJ 2 cC,⟨3,_,rfl,rfl,.cons (.one rfl rfl (.nil 4)) .nil⟩,trivial⟩ ⟨⟨_,rfl,.sl 0 0 0 _ rfl⟩,aM,aM,⟨_,rfl,.sl 3 3 0 _ rfl⟩,⟨_,rfl,.int rfl⟩,trivial⟩) ?_
 rintro⟨k,rows⟩ ⟨hkk,hrl,hrr,hro⟩;simp only at hkk hrl hrr hro;have hseq:nJ bs ⟨kind,name,lo,hi,ws,ls,vals,kids,.mk vk vn vs vks⟩=match Go.Ax.d8 bs kids [[]] with|none=>⟨[],true⟩|some rows=>⟨c8 (rows.map (dM name)),false⟩:=rfl
 refine Rr ?_;refine aE (fun h=>?_) (fun h=>?_)
 ·have hlt:k<kids.length:=by rw[aC] at h;simpa using h
  have e1:(aW kids)[(k:Int).toNat]? = some (.int .i64 kids[k]):=by rw[Q4,bK,Qq hlt];rfl
  have hg:kids[k]? = some kids[k]:=Qq hlt;rw[List.drop_eq_getElem_cons hlt,Go.Ax.d8] at hro;generalize kids[k]=q at e1 hg hro;obtain⟨q1,q2⟩:=hk k q hg;obtain⟨qn,rfl⟩:=RB q1;have hqn:qn<bs.length:=om;obtain⟨⟨bv,bm⟩,hbe⟩:∃b,b=bs[qn]:=⟨_,rfl⟩
  have hbm:=hb _ (show (⟨bv,bm⟩:fK)∈bs by rw[hbe];exact Ra hqn);simp only at hbm;have hat:cD bs qn=⟨bv,bm⟩:=by rw[hbe];simp[cD,hqn]
  rw[hat] at hro;simp only at hro;have bq:Nat.blt (qn:Int).toNat bs.length=true:=Qy (by simp;omega);have e2:(encLs bs)[0+(qn:Int).toNat]? = some (iX ⟨bv,bm⟩):=by rw[Rc,Q4,encLs_get,Qq hqn,←hbe];rfl
  refine Rr ?_;refine aD e1 ?_;refine Rr ?_;repeat((first|refine aK bq ?_|refine aD e2 ?_);refine Rr ?_)
  cases bm with
  | true=>
   refine Rr ?_;exact b8 (r':=iX ⟨[],true⟩) (n':=1) (m':=[(0,.row 125 2 (encLs bs))]) [(0,0)] rfl ⟨aJ 0 (encLs_nn bs),trivial⟩ (.agg' (.cons (.nil 4) (.s .nil))) ⟨by rw[hseq,hro,Q3 (.inl rfl)],rfl⟩
  | false=>
   refine Rr ?_;have hmul:IntKind.i64.wrap ((rows.length:Int)*((aL bv).length:Nat))=((rows.length*bv.length:Nat):Int):=by
    have hm:rows.length*bv.length<=1024*1024:=SL hrl hbm.1;rw[aA];exact w64 (by push_cast;rfl) ⟨om,om⟩
   rw[hmul];refine aE (fun h=>?_) (fun h=>?_)
   ·refine Rr ?_;exact b8 (r':=iX ⟨[],true⟩) (n':=1) (m':=[(0,.row 125 2 (encLs bs))]) [(0,0)] rfl ⟨aJ 0 (encLs_nn bs),trivial⟩ (.agg' (.cons (.nil 4) (.s .nil))) ⟨by rw[hseq,hro,Q3 (.inr (by simp only[gt_iff_lt,RL] at h;omega))],rfl⟩
   ·have hle:rows.length*bv.length<=1024:=by simp only[gt_iff_lt,Ry] at h;omega
    rw[Qz (by simp;omega)] at hro;refine Rr ?_;refine aZ.ph 29 1 ?_;refine aZ.at bD (fun i:Nat=>i<=rows.length)
     (fun i=>⟨[(1,.sl 0 0 bs.length),(2,.ptr 1 0 0),(4,.ptr 2 0 0),(5,.sl 3 0 rows.length),(6,.int .i64 k),(7,.ptr 4 0 0),(8,.sl 5 0 (e6 (rows.take i) bv).length),(9,.int .i64 i)],[(0,.row 125 2 (encLs bs)),(1,.row 59 12 [bL ⟨kind,name,lo,hi,ws,ls,vals,kids,.mk vk vn vs vks⟩]),(2,.row 125 2 [.agg [.nsl,.bool false]]),(3,.row 29 1 (jK rows)),(4,.row 125 2 [iX ⟨bv,false⟩]),(5,.row 29 1 (jK (e6 (rows.take i) bv)))],6,91⟩)
     (fun i=>rows.length-i) 0 [(0,0),(1,1),(2,2),(3,3),(4,4),(5,5)] (by simp)
     (aI _ rfl ⟨aJ 0 (encLs_nn bs),aJ 1 (.cons (aQ _) .nil),aJ 2 cC,aJ 3 (gE _),aJ 4 (.cons (jH _) .nil),⟨5,_,rfl,rfl,.nil⟩,trivial⟩ ⟨⟨_,rfl,.sl 0 0 0 _ rfl⟩,aM,aM,⟨_,rfl,.sl 3 3 0 _ rfl⟩,⟨_,rfl,.int rfl⟩,aM,⟨_,rfl,.nslk 5 5 _ rfl rfl⟩,⟨_,rfl,.int rfl⟩,trivial⟩) ?_
    intro i hi0;refine Rr ?_;refine aE (fun h=>?_) (fun h=>?_)
    ·have hir:i<rows.length:=by simpa using h
     obtain⟨rw,hrw⟩:∃rw,rw=rows[i]:=⟨_,rfl⟩
     have hrl2:=(hrr rw (by rw[hrw];exact Ra hir)).1;have e3:(jK rows)[0+(i:Int).toNat]? = some (.il 4 (aL rw)):=by rw[Rc,Q4,jK,Rl,Qq hir,hrw];rfl
     have b3:Nat.blt (i:Int).toNat rows.length=true:=Qy (by simp;omega);refine Rr ?_;refine aZ.at bD (fun j:Nat=>j<=bv.length)
      (fun j=>⟨[(1,.sl 0 0 bs.length),(2,.ptr 1 0 0),(4,.ptr 2 0 0),(5,.sl 3 0 rows.length),(6,.int .i64 k),(7,.ptr 4 0 0),(8,.sl 5 0 (e6 (rows.take i) bv++(bv.take j).map fun v=>rw++[v]).length),(9,.int .i64 i),(10,.int .i64 j)],[(0,.row 125 2 (encLs bs)),(1,.row 59 12 [bL ⟨kind,name,lo,hi,ws,ls,vals,kids,.mk vk vn vs vks⟩]),(2,.row 125 2 [.agg [.nsl,.bool false]]),(3,.row 29 1 (jK rows)),(4,.row 125 2 [iX ⟨bv,false⟩]),(5,.row 29 1 (jK (e6 (rows.take i) bv++(bv.take j).map fun v=>rw++[v])))],6,91⟩)
      (fun j=>bv.length-j) 0 [(0,0),(1,1),(2,2),(3,3),(4,4),(5,5)] (by simp)
      (aI _ rfl ⟨aJ 0 (encLs_nn bs),aJ 1 (.cons (aQ _) .nil),aJ 2 cC,aJ 3 (gE _),aJ 4 (.cons (jH _) .nil),⟨5,_,rfl,rfl,.eq (gE _) (by simp)⟩,trivial⟩ ⟨⟨_,rfl,.sl 0 0 0 _ rfl⟩,aM,aM,⟨_,rfl,.sl 3 3 0 _ rfl⟩,⟨_,rfl,.int rfl⟩,aM,⟨_,rfl,.slE rfl (by simp)⟩,⟨_,rfl,.int rfl⟩,⟨_,rfl,.int rfl⟩,trivial⟩) ?_
     intro j hj;have hX:(e6 (rows.take i) bv).length<=1048576:=by
      rw[oH];exact RZ (SL (show (rows.take i).length<=1024 by simp;omega) hbm.1) om
     refine Rr ?_;refine aE (fun h=>?_) (fun h=>?_)
     ·have hjl:j<bv.length:=EF h;obtain⟨p1,p2,p3,p4,pm,pg,pe,ep⟩:=bB (l:=bv) (k:=j) hjl;have hL:e6 (rows.take i) bv++((bv.take (j+1)).map fun v=>rw++[v])=(e6 (rows.take i) bv++(bv.take j).map fun v=>rw++[v])++[rw++[.mk p1 p2 p3 p4]]:=by
       rw[Q0 hjl,pe];simp
      refine Rr ?_;repeat((first|refine aK b3 ?_|refine aD e3 ?_);refine Rr ?_)
      refine aK (uY rfl (by rw[aA];omega)) ?_;refine Rr ?_;refine aD ep ?_;refine Rr ?_;refine aK (bM rfl rfl (by simp) (by simp[aA];omega)) ?_;refine Rr ?_;refine aK (bM rfl rfl (by rw[Dk]) (by simp;omega)) ?_;refine Rr ?_;exact .mk (j+1) [(0,0),(1,1),(2,2),(3,3),(4,4),(10,5)] om
       (aI _ rfl ⟨aJ 0 (encLs_nn bs),aJ 1 (.cons (aQ _) .nil),aJ 2 cC,aJ 3 (gE _),aJ 4 (.cons (jH _) .nil),⟨10,_,rfl,rfl,by rw[hL,Gc];exact .snoc rfl (.same (gE _)) (.one rfl rfl (.fzR rfl rfl (.eq cC (by rw[fI];rfl)) (by simp[aA])))⟩,trivial⟩ ⟨⟨_,rfl,.sl 0 0 0 _ rfl⟩,aM,aM,⟨_,rfl,.sl 3 3 0 _ rfl⟩,⟨_,rfl,.int rfl⟩,aM,⟨_,rfl,.slE rfl (by rw[hL];simp only[RY];rfl)⟩,⟨_,rfl,.int rfl⟩,⟨_,rfl,.w64 om ⟨om,om⟩⟩,trivial⟩) om
     ·have hje:j=bv.length:=by have:bv.length<=j:=EG h;omega
      refine Rr ?_;exact .mk (i+1) [(0,0),(1,1),(2,2),(3,3),(4,4),(5,5)] om
       (aI _ rfl ⟨aJ 0 (encLs_nn bs),aJ 1 (.cons (aQ _) .nil),aJ 2 cC,aJ 3 (gE _),aJ 4 (.cons (jH _) .nil),⟨5,_,rfl,rfl,.eq (gE _) (by rw[hje,RG,Q0 hir,←hrw];simp[e6])⟩,trivial⟩ ⟨⟨_,rfl,.sl 0 0 0 _ rfl⟩,aM,aM,⟨_,rfl,.sl 3 3 0 _ rfl⟩,⟨_,rfl,.int rfl⟩,aM,⟨_,rfl,.slE rfl (by rw[hje,RG,Q0 hir,←hrw];simp[e6])⟩,⟨_,rfl,.w64 om ⟨om,om⟩⟩,trivial⟩) om
    ·have hie:i=rows.length:=by simp at h;omega
     have hmem:∀r∈e6 rows bv,r.length<=k+1/\∀v∈r,fY v:=by
      intro r hr;simp only[e6,List.mem_flatMap,RD] at hr;obtain⟨r',hr',v,hv,rfl⟩:=hr;have:=hrr r' hr';refine⟨by simp;omega,fun u hu=>?_⟩;rcases Q9.1 hu with hu|hu
      ·exact this.2 u hu
      ·simp at hu;rw[hu];exact hbm.2 v hv
     refine Rr ?_;exact .mk (k+1,e6 rows bv) [(0,0),(1,1),(2,2),(5,3)] ⟨by simp only;omega,by rw[oH];exact hle,hmem,hro⟩
      (aI _ rfl ⟨aJ 0 (encLs_nn bs),aJ 1 (.cons (aQ _) .nil),aJ 2 cC,⟨5,_,rfl,rfl,.eq (gE _) (by rw[hie,RG])⟩,trivial⟩ ⟨⟨_,rfl,.sl 0 0 0 _ rfl⟩,aM,aM,⟨_,rfl,.slE rfl (by rw[hie,RG])⟩,⟨_,rfl,.w64 (by simp) ⟨by simp only;omega,by simp only;omega⟩⟩,trivial⟩) (by simp only;omega)
 ·have hke:k=kids.length:=by rw[aC] at h;simp at h;omega
  rw[hke,Sx,Go.Ax.d8] at hro;refine Rr ?_;refine aZ.ph 57 4 ?_;refine aZ.at bD (fun i:Nat=>i<=rows.length)
   (fun i=>⟨[(2,.ptr 1 0 0),(4,.ptr 2 0 0),(5,.sl 3 0 rows.length),(12,.sl 4 0 ((rows.take i).map (dM name)).length),(13,.int .i64 i)],[(0,.row 125 2 (encLs bs)),(1,.row 59 12 [bL ⟨kind,name,lo,hi,ws,ls,vals,kids,.mk vk vn vs vks⟩]),(2,.row 125 2 [.agg [.nsl,.bool false]]),(3,.row 29 1 (jK rows)),(4,.row 57 4 (aL ((rows.take i).map (dM name))))],5,91⟩)
   (fun i=>rows.length-i) 0 [(0,0),(1,1),(2,2),(3,3),(4,4)] (by simp)
   (aI _ rfl ⟨aJ 0 (encLs_nn bs),aJ 1 (.cons (aQ _) .nil),aJ 2 cC,aJ 3 (gE _),aJ 4 .nil,trivial⟩ ⟨aM,aM,⟨_,rfl,.sl 3 3 0 _ rfl⟩,⟨_,rfl,.nslk 4 4 _ rfl rfl⟩,⟨_,rfl,.int rfl⟩,trivial⟩) ?_
  intro i hi0;refine Rr ?_;refine aE (fun h=>?_) (fun h=>?_)
  ·have hir:i<rows.length:=by simpa using h
   obtain⟨rw,hrw⟩:∃rw,rw=rows[i]:=⟨_,rfl⟩
   have e3:(jK rows)[0+(i:Int).toNat]? = some (.il 4 (aL rw)):=by rw[Rc,Q4,jK,Rl,Qq hir,hrw];rfl
   have b3:Nat.blt (i:Int).toNat rows.length=true:=Qy (by simp;omega);have hM:=PJ ⟨kind,name,lo,hi,ws,ls,vals,kids,.mk vk vn vs vks⟩ rw;have hL:(rows.take (i+1)).map (dM name)=(rows.take i).map (dM name)++[dM name rw]:=by rw[Q0 hir,←hrw];simp
   simp only at hM;obtain⟨⟨m1,m2,m3,m4⟩,hmv⟩:∃mv,mv=dM name rw:=⟨_,rfl⟩
   rw[←hmv] at hM hL;refine Rr ?_;repeat((first|refine bN ?_|refine aK b3 ?_|refine aD e3 ?_);refine Rr ?_)
   refine hM.go ?_ (.cons (aQ ⟨kind,name,lo,hi,ws,ls,vals,kids,.mk vk vn vs vks⟩) cC);refine Rr ?_;refine aK (bM rfl rfl (by rw[aA]) (by simp;omega)) ?_;refine Rr ?_;repeat((first|refine bN ?_|refine aK b3 ?_|refine aD e3 ?_);refine Rr ?_)
   exact .mk (i+1) [(0,0),(1,1),(2,2),(3,3),(15,4)] om
    (aI _ rfl ⟨aJ 0 (encLs_nn bs),aJ 1 (.cons (aQ _) .nil),aJ 2 cC,aJ 3 (gE _),⟨15,_,rfl,rfl,.eq cC (by rw[hL,fI];rfl)⟩,trivial⟩ ⟨aM,aM,⟨_,rfl,.sl 3 3 0 _ rfl⟩,⟨_,rfl,.slE rfl (by rw[hL];simp)⟩,⟨_,rfl,.w64 om ⟨om,om⟩⟩,trivial⟩) om
  ·have hie:i=rows.length:=by simp at h;omega
   rw[hie,RG];have hmo:∀v∈rows.map (dM name),fY v:=by
    intro v hv;obtain⟨r,hr,rfl⟩:=RD.1 hv;have:=hrr r hr;exact Jj hname om this.2
   have hS:=N1 (rows.map (dM name)) (by simp;omega) hmo;have hseq2:nJ bs ⟨kind,name,lo,hi,ws,ls,vals,kids,.mk vk vn vs vks⟩=⟨c8 (rows.map (dM name)),false⟩:=by rw[hseq,hro]
   rw[hseq2];generalize rows.map (dM name)=mv at hS ⊢;generalize c8 mv=sv at hS ⊢;refine Rr ?_;refine aF.pre bD [(0,0),(1,1),(2,2),(3,3)] (mem':=[(0,.row 125 2 (encLs bs)),(1,.row 59 12 [bL ⟨kind,name,lo,hi,ws,ls,vals,kids,.mk vk vn vs vks⟩]),(2,.row 125 2 [.agg [.nsl,.bool false]]),(3,.row 29 1 (jK rows))]) (args':=[.il 4 (aL mv)]) rfl
    ⟨aJ 0 (encLs_nn bs),aJ 1 (.cons (aQ _) .nil),aJ 2 cC,aJ 3 (gE _),trivial⟩ (.cons (.fz' rfl rfl (by rw[aA];omega) (by rw[Re];exact RJ (by rw[aA];omega)) cC) .nil) ?_
   refine hS.go ?_;refine Rr ?_;exact b8 (r':=iX ⟨sv,false⟩) (n':=1) (m':=[(0,.row 125 2 (encLs bs))]) [(0,0)] rfl ⟨aJ 0 (encLs_nn bs),trivial⟩ (.same _ (jH ⟨sv,false⟩)) ⟨rfl,rfl⟩
set_option maxHeartbeats 8000000
theorem LN(x:Nd)(bs:List fK)(h3:x.kind=3)(hname:x.name.length<=4294967296)(hkl:x.kids.length<=65536)(hk:∀(j:Nat) (k:Int),x.kids[j]? = some k->0<=k/\k<bs.length)(hb:∀b∈bs,b.vals.length<=1024/\∀v∈b.vals,fY v) :
  aF prog [] 139 [bL x,.sl 0 0 bs.length] [(0,.row 125 2 (encLs bs))] 1 fun r m _=>r=iX (cE x bs)/\m=[(0,.row 125 2 (encLs bs))]:=by
 have hS:=QW x bs hname hkl hk hb;have e:cE x bs=nJ bs x:=by unfold cE;rw[Qz om,Qz om,Q3 h3]
 rw[e];generalize nJ bs x=q at hS ⊢;obtain⟨sv,sm⟩:=q;have hnn:=aQ x;obtain⟨kind,name,lo,hi,ws,ls,vals,kids,⟨vk,vn,vs,vks⟩⟩:=x;simp only at h3;subst h3;refine aO bD func139 rfl ?_;refine Rr ?_;refine aF.use1 bD hS 0 rfl (encLs_nn bs) (.cons (.same _ hnn) (.cons (.sl 0 0 0 _ rfl) .nil)) ?_;rintro r m n ⟨rfl,rfl⟩;refine⟨_,rfl,jH _,encLs_nn bs, ?_⟩;refine Rr ?_;exact b8 (r':=iX ⟨sv,sm⟩) (n':=1) (m':=[(0,.row 125 2 (encLs bs))]) [(0,0)] rfl ⟨aJ 0 (encLs_nn bs),trivial⟩ (.same _ (jH ⟨sv,sm⟩)) ⟨rfl,rfl⟩
theorem Nn(i:Nat)(x:Nd)(bs:List fK)(hx:Go.Ax.f9 i x)(hl:i=bs.length)(hb:B3 bs) :
  aF prog [] 139 [bL x,.sl 0 0 bs.length] [(0,.row 125 2 (encLs bs))] 1 fun r m _=>r=iX (cE x bs)/\m=[(0,.row 125 2 (encLs bs))]:=by
 subst hl;have hk:=hx.kids;have hn:=eS hx.num;rcases(show x.kind=0∨x.kind=1∨x.kind=2∨x.kind=3∨x.kind=4 by have:=hx.kind;omega) with h|h|h|h|h
 ·exact JQ x bs h
 ·exact Ff x bs h hn.2.1 hn.1 hn.2.2.1 hn.2.2.2
 ·exact JR x bs h hx.klen hk hb
 ·exact LN x bs h hx.ok.name hx.klen hk hb
 ·exact Ic x bs h hx.klen hk hb
abbrev tM(ns:List Nd):aN:=[(0,.row 59 12 (aY ns))]
theorem qW{l:List Nd}{k n:Nat}(h:k<l.length)(hn:l.length=n):∃x,l[k]? = some x/\l[k]=x/\(aY l)[0+(k:Int).toNat]? = some (bL x)/\Nat.blt (k:Int).toNat n=true:=
 ⟨l[k],Qq h,rfl,by simp[mU,Qq h],Qy (by simp;omega)⟩
theorem Ox(ns:List Nd)(n:Nat)(hn:n<=ns.length)(hl:ns.length<=100000)(hg:∀(i:Nat) (x:Nd),i<n->ns[i]? = some x->Go.Ax.f9 i x) :
  aF prog [] 67 [.agg [.sl 0 0 ns.length],.int .i64 n] (tM ns) 1 fun r m k=>r = .sl 1 0 n/\m=[(0,.row 59 12 (aY ns)),(1,.row 125 2 (encLs (aH (ns.take n))))]/\k=2:=by
 refine aO bD func67 rfl ?_;refine Rr ?_;refine aZ.ph 125 2 ?_;refine aZ.at bD (fun i:Nat=>i<=n)
  (fun i=>⟨[(1,.int .i64 n),(2,.ptr 1 0 0),(5,.sl 2 0 i),(6,.int .i64 i)],[(0,.row 59 12 (aY ns)),(1,.row 25 1 [.agg [.sl 0 0 ns.length]]),(2,.row 125 2 (encLs (aH (ns.take i))))],3,23⟩)
  (fun i=>n-i) 0 [(0,0),(1,1),(2,2)] (by simp)
  (aI _ rfl ⟨aJ 0 (aS _),⟨1,_,rfl,rfl,.cons (.agg (.cons (.sl 0 0 0 _ rfl) .nil)) .nil⟩,aJ 2 .nil,trivial⟩ ⟨aG,aM,⟨_,rfl,.nslk 2 2 _ rfl rfl⟩,aG,trivial⟩) ?_
 intro i hi;refine Rr ?_;refine aE (fun h=>?_) (fun h=>?_)
 ·have hin:i<n:=by simp at h;omega
  obtain⟨x,hx1,hx2,ex,bx⟩:=qW (l:=ns) (k:=i) (n:=ns.length) om rfl;have hgx:=hg i x hin hx1;have htl:(aH (ns.take i)).length=i:=by rw[cN];simp;omega
  have hL:=Nn i x (aH (ns.take i)) hgx htl.symm (gD _ fun j y hy=>by
   have hj:=(Qv.1 hy).1;rw[RO,Q3 (by simp at hj;omega)] at hy;exact hg j y (by simp at hj;omega) hy)
  have hnx:aH (ns.take (i+1))=aH (ns.take i)++[cE x (aH (ns.take i))]:=by rw[Q0 om,hx2,eX]
  have hxn:=aQ x;have hxc:(bL x).cells.length=12:=by obtain⟨kind,name,lo,hi,ws,ls,vals,kids,⟨vk,vn,vs,vks⟩⟩:=x;rfl
  generalize cE x (aH (ns.take i))=nl at hL hnx;obtain⟨bs,hbs⟩:∃bs,bs=aH (ns.take i):=⟨_,rfl⟩
  rw[←hbs] at hL hnx htl ⊢;obtain⟨kind,name,lo,hi,ws,ls,vals,kids,⟨vk,vn,vs,vks⟩⟩:=x;refine Rr ?_;repeat((first|refine aK bx ?_|refine aD ex ?_);refine Rr ?_)
  refine aF.use1 bD hL 2 rfl (encLs_nn bs) (.cons (.same _ hxn) (.cons (.slE rfl htl.symm) .nil)) ?_;rintro r m k ⟨rfl,rfl⟩;refine⟨_,rfl,jH _,encLs_nn bs, ?_⟩;refine Rr ?_;refine aK (bM rfl rfl (by rw[encLs_length,htl]) (by simp;omega)) ?_;refine Rr ?_;exact .mk (i+1) [(0,0),(1,1),(4,2)] om
   (aI _ rfl ⟨aJ 0 (aS _),⟨1,_,rfl,rfl,.cons (.agg (.cons (.sl 0 0 0 _ rfl) .nil)) .nil⟩,⟨4,_,rfl,rfl,.eq (encLs_nn _) (by rw[hnx];simp[encLs])⟩,trivial⟩ ⟨aG,aM,⟨_,rfl,.slE rfl (by simp)⟩,⟨_,rfl,.w64 om ⟨om,om⟩⟩,trivial⟩) om
 ·have hin:i=n:=by simp at h;omega
  subst hin;refine Rr ?_;exact b8 (r':=.sl 1 0 i) (n':=2) (m':=[(0,.row 59 12 (aY ns)),(1,.row 125 2 (encLs (aH (ns.take i))))]) [(0,0),(2,1)] rfl ⟨aJ 0 (aS _),aJ 2 (encLs_nn _),trivial⟩ (.sl 2 1 0 _ rfl) ⟨rfl,rfl,rfl⟩
set_option maxHeartbeats 8000000
theorem CQ{ns:List Nd}{i:Nat}(hi:i<ns.length):(aH (ns.take (i+1)))[i]? = some (cD (aH (ns.take (i+1))) i):=by
 have:i<(aH (ns.take (i+1))).length:=by rw[cN];simp;omega
 unfold cD;rw[Qx,Q4,Qq this];rfl
theorem Gf(ns:List Nd)(i:Nat)(hi:i<ns.length)(hl:ns.length<=100000)(hg:∀(j:Nat) (x:Nd),j<i+1->ns[j]? = some x->Go.Ax.f9 j x) :
  aF prog [] 30 [.agg [.sl 0 0 ns.length],.int .i64 i] (tM ns) 1 fun r m _=>r = .tup [.il 4 (aL (cD (aH (ns.take (i+1))) i).vals),.bool (!(cD (aH (ns.take (i+1))) i).many)]/\m=tM ns:=by
 have hL:=Ox ns (i+1) om hl hg;have hw:IntKind.i64.wrap ((i:Int)+1)=((i+1:Nat):Int):=w64 om ⟨om,om⟩;have hat:=CQ hi;have hlen:(aH (ns.take (i+1))).length=i+1:=by rw[cN];simp;omega
 generalize cD (aH (ns.take (i+1))) i=b at hat ⊢;generalize aH (ns.take (i+1))=bs at hL hat hlen;obtain⟨bv,bm⟩:=b;have e2:(encLs bs)[0+((i:Nat):Int).toNat]? = some (iX ⟨bv,bm⟩):=by rw[Rc,Q4,encLs_get,hat];rfl
 have b2:Nat.blt ((i:Nat):Int).toNat (i+1)=true:=Qy (by simp);refine aO bD func30 rfl ?_;refine Rr ?_;rw[hw];refine aF.useN bD [(0,0)] hL rfl (.cons (.agg' (.cons (.sl 0 0 0 _ rfl) .nil)) (.s .nil)) ⟨aJ 0 (aS _),trivial⟩ rfl ?_;rintro r m k ⟨rfl,rfl,rfl⟩;refine⟨[(0,0),(1,2)],.sl 2 0 (i+1),[(0,.row 59 12 (aY ns)),(2,.row 125 2 (encLs bs))],3,.sl 1 2 0 _ rfl,⟨aJ 0 (aS _),aJ 1 (encLs_nn _),trivial⟩,rfl, ?_⟩;refine Rr ?_;repeat((first|refine bN ?_|refine aK b2 ?_|refine aD e2 ?_);refine Rr ?_)
 exact b8 (r':=.tup [.il 4 (aL bv),.bool (!bm)]) (n':=1) (m':=tM ns) [(0,0)] rfl ⟨aJ 0 (aS _),trivial⟩ (.same _ nn) ⟨rfl,rfl⟩
theorem Om(ns:List Nd)(x:Nd)(i:Nat)(hi:i<=ns.length)(hl:ns.length<=100000)(hg:∀(j:Nat) (x:Nd),j<i->ns[j]? = some x->Go.Ax.f9 j x)(hx:pL x)(hk0:0<x.kids.length)(hk:∀(j:Nat) (k:Int),x.kids[j]? = some k->0<=k/\k<i) :
  aF prog [] 63 [.agg [.sl 0 0 ns.length],bL x] (tM ns) 1 fun r m _=>r = .int .i64 (c9 ns x)/\m=tM ns:=by
 obtain⟨q,hq⟩:∃q,x.kids[0]? = some q:=⟨x.kids[0],Qq hk0⟩
 obtain⟨q1,q2⟩:=hk 0 q hq;obtain⟨qn,rfl⟩:=RB q1;have hgd:x.kids.getD 0 0=qn:=by rw[Qx,hq];rfl
 have hV:=Gf ns qn om hl fun j y hj hy=>hg j y om hy
 have hbl:=nE (gD (ns.take (qn+1)) fun j y hy=>hg j y (by have:=(Go.Ax.d7 hy).2;omega) (Go.Ax.d7 hy).1) qn;have hbe:c9 ns x=if (cD (aH (ns.take (qn+1))) qn).many=true then 4 else if cK (cD (aH (ns.take (qn+1))) qn).vals x.values=true then 0 else 1:=by
  unfold c9;simp only[hgd,Q4]
 rw[hbe];generalize cD (aH (ns.take (qn+1))) qn=b at hV hbl ⊢;obtain⟨bv,bm⟩:=b;simp only at hV hbl ⊢;have hS:=HU bv x.values om hbl.2;generalize cK bv x.values=sm at hS ⊢;have ek:(aW x.kids)[(0:Int).toNat]? = some (.int .i64 (qn:Int)):=by rw[bK];simp[hq]
 obtain⟨kind,name,lo,hi',ws,ls,vals,kids,⟨vk,vn,vs,vks⟩⟩:=x;simp only at hS ek;refine aO bD func63 rfl ?_;refine Rr ?_;repeat((first|refine bN ?_|refine aD ek ?_);refine Rr ?_)
 refine aF.use1 bD hV 0 rfl (aS _) (.cons (.agg' (.cons (.sl 0 0 0 _ rfl) .nil)) (.s .nil)) ?_;rintro r m k ⟨rfl,rfl⟩;refine⟨_,rfl,nn,aS _, ?_⟩;cases bm with
 | true=>
  refine Rr ?_;repeat((first|refine bN ?_|refine aD ek ?_);refine Rr ?_)
  exact b8 (r':=.int .i64 4) (n':=1) (m':=tM ns) [(0,0)] rfl ⟨aJ 0 (aS _),trivial⟩ (.same _ nn) ⟨rfl,rfl⟩
 | false=>
  refine Rr ?_;repeat((first|refine bN ?_|refine aD ek ?_);refine Rr ?_)
  refine hS.go ?_;cases sm with
  | true=>
   refine Rr ?_;exact b8 (r':=.int .i64 0) (n':=1) (m':=tM ns) [(0,0)] rfl ⟨aJ 0 (aS _),trivial⟩ (.same _ nn) ⟨rfl,rfl⟩
  | false=>
   refine Rr ?_;exact b8 (r':=.int .i64 1) (n':=1) (m':=tM ns) [(0,0)] rfl ⟨aJ 0 (aS _),trivial⟩ (.same _ nn) ⟨rfl,rfl⟩
theorem OA(ns:List Nd)(hl:ns.length<=100000)(ho:∀x∈ns,pL x/\x.values.length<=4294967290) :
  aF prog [] 25 [.agg [.sl 0 0 ns.length]] (tM ns) 1 fun r m _=>r = .int .i64 (cL ns)/\m=tM ns:=by
 have hfin:∀(e:Int) (mem:aN) (nx:Nat),lk mem 0=some (.row 59 12 (aY ns))->e=cL ns->nF 1 (fun r m (_:Nat)=>r = .int .i64 (cL ns)/\m=tM ns) (.int .i64 e) mem nx:=by
  intro e mem nx h0 he;exact b8 (r':=.int .i64 e) (n':=1) (m':=tM ns) [(0,0)] rfl ⟨⟨0,_,rfl,h0,.same (aS _)⟩,trivial⟩ (.same _ nn) ⟨by rw[he],rfl⟩
 refine aO bD func25 rfl ?_;refine Rr ?_;refine aE (fun h=>?_) (fun h=>?_)
 ·have h1:4096<ns.length:=by simp at h;omega
  refine Rr ?_;exact hfin _ _ _ rfl (by unfold cL;rw[Q3 h1])
 ·have h1:¬4096<ns.length:=by simp at h;omega
  have hvt:cL ns=bI [] ns:=by unfold cL;rw[Qz h1]
  refine Rr ?_;refine aZ.ph 3 1 ?_;refine aZ.ph 3 1 ?_;refine aZ.at bD (fun i:Nat=>i<=ns.length/\bI [] (ns.take i)=0)
   (fun i=>⟨[(1,.ptr 1 0 0),(3,.sl 2 0 i),(4,.sl 3 0 i),(5,.int .i64 i)],[(0,.row 59 12 (aY ns)),(1,.row 25 1 [.agg [.sl 0 0 ns.length]]),(2,.row 3 1 (aW (bR (ns.take i)))),(3,.row 3 1 (aW (bO (ns.take i))))],4,57⟩)
   (fun i=>ns.length-i) 0 [(0,0),(1,1),(2,2),(3,3)] ⟨by simp,by simp[bI]⟩
   (aI _ rfl ⟨aJ 0 (aS _),⟨1,_,rfl,rfl,.cons (.agg (.cons (.sl 0 0 0 _ rfl) .nil)) .nil⟩,aJ 2 .nil,aJ 3 .nil,trivial⟩ ⟨aM,⟨_,rfl,.nslk 2 2 _ rfl rfl⟩,⟨_,rfl,.nslk 3 3 _ rfl rfl⟩,aG,trivial⟩) ?_
  rintro i ⟨hi,hv0⟩;refine Rr ?_;refine aE (fun h=>?_) (fun h=>?_)
  ·have hin:i<ns.length:=by simp at h;omega
   obtain⟨x,hx1,hx2,ex,bx⟩:=qW (l:=ns) (k:=i) (n:=ns.length) hin rfl;have hxm:=RC hx1;obtain⟨hxo,hxv⟩:=ho x hxm;have hsplit:ns=ns.take i++x::ns.drop (i+1):=by rw[←hx2,←List.drop_eq_getElem_cons hin,List.take_append_drop]
   have hti:(ns.take i).length=i:=by simp;omega
   have htn:ns.take (i+1)=ns.take i++[x]:=by rw[Q0 hin,hx2]
   have hgood:=g8 (ns.take i) (fun y hy=>(ho y (Rk hy)).1) hv0;obtain⟨hls,hss⟩:=kY (ns.take i) hv0;have hll:(bR (ns.take i)).length=i:=by rw[gJ,hti]
   have hsl:(bO (ns.take i)).length=i:=by rw[gI,hti]
   have hstop:=fun hs=>qJ (l:=ns.take i) (r:=ns.drop (i+1)) (x:=x) hv0 hs
   rw[←hsplit] at hstop;have hgo:=dL [] (ns.take i) x hv0;rw[Rb,←htn] at hgo;have hN:=NX i x om hxo hxv;have hlt:=g6 (ns.take i) x;have hst:=gV (ns.take i) x;rw[←htn] at hlt hst;have hse:eI (ns.take i) (bR (ns.take i)) (bO (ns.take i)) x=if dF i x≠0 then dF i x else if 256<fX (bR (ns.take i)) x∨1024<g5 (bO (ns.take i)) x then 4 else if x.kind=4 then c9 (ns.take i) x else 0:=by
    unfold eI;rw[hti]
   have hbnd:(0<x.kids.length/\∀(j:Nat) (k:Int),x.kids[j]? = some k->0<=k/\k<i)->c9 (ns.take i) x=c9 ns x:=by
    rintro⟨h0,hk⟩;obtain⟨q,hq⟩:∃q,x.kids[0]? = some q:=⟨x.kids[0],Qq h0⟩
    obtain⟨q1,q2⟩:=hk 0 q hq;have hgd:x.kids.getD 0 0=q:=by rw[Qx,hq];rfl
    unfold c9;simp only[hgd];rw[Sb,R8 om]
   have hxn:=aQ x;obtain⟨ne,hne⟩:∃ne,ne=dF i x:=⟨_,rfl⟩
   rw[←hne] at hN hse;by_cases n0:ne=0
   ·subst n0;have hok:=iL hne.symm;have h4:4<=x.kind->0<x.kids.length:=fun h=>by have:=hok.bind (by have:=hok.kind;omega);omega
    have hL:=FG (bR (ns.take i)) x hxo om hls (by rw[hll];exact hok.kids) h4 hok.kind;have hS:=KY (bO (ns.take i)) x hxo om hss (by rw[hsl];exact hok.kids) h4 hok.kind;have hB:=Om ns x i om hl (fun j y hj hy=>hgood j y (by rw[RO,Q3 hj];exact hy)) hxo;rw[Qz (by simp)] at hse;generalize bR (ns.take i)=lsI at hL hll hlt hse hstop hgo hls ⊢;generalize bO (ns.take i)=ssI at hS hsl hst hse hstop hgo hss ⊢;generalize fX lsI x=ln at hL hlt hse;generalize g5 ssI x=sn at hS hst hse;obtain⟨kind,name,lo,hi',ws,ls,vals,kids,⟨vk,vn,vs,vks⟩⟩:=x;simp only at hse h4 hB hbnd hok;refine Rr ?_;repeat((first|refine aK bx ?_|refine aD ex ?_);refine Rr ?_)
    refine hN.go ?_ (.cons (.int _ _) (.cons hxn .nil));refine Rr ?_;refine aF.useApp bD hL 2 rfl (aT _) (.cons (.slE rfl hll.symm) (.cons (.same _ hxn) .nil)) ?_;rintro len ys ⟨rfl,rfl⟩;refine Rr ?_;refine aF.useApp bD hS 3 rfl (aT _) (.cons (.slE rfl hsl.symm) (.cons (.same _ hxn) .nil)) ?_;rintro len ys ⟨rfl,rfl⟩;have el:(aW (lsI++[ln]))[0+((i:Nat):Int).toNat]? = some (.int .i64 ln):=by simp[aW,hll]
    have bl:Nat.blt ((i:Nat):Int).toNat (lsI.length+1)=true:=Qy (by simp;omega);have es:(aW (ssI++[sn]))[0+((i:Nat):Int).toNat]? = some (.int .i64 sn):=by simp[aW,hsl]
    have bs':Nat.blt ((i:Nat):Int).toNat (ssI.length+1)=true:=Qy (by simp;omega);refine Rr ?_;repeat((first|refine aK bl ?_|refine aD el ?_);refine Rr ?_)
    refine aE (fun h2=>?_) (fun h2=>?_)
    ·have h3:256<ln:=by simpa using h2
     rw[h2];rw[Q3 (.inl h3)] at hse;have hres:=hstop (by rw[hse];omega);refine Rr ?_;exact hfin _ _ _ rfl (by rw[hvt,hres,hse])
    ·have h3:¬256<ln:=by simpa using h2
     rw[h2];refine Rr ?_;repeat((first|refine aK bs' ?_|refine aD es ?_);refine Rr ?_)
     refine aE (fun h4'=>?_) (fun h4'=>?_)
     ·have h5:1024<sn:=by simpa using h4'
      rw[h4'];rw[Q3 (.inr h5)] at hse;have hres:=hstop (by rw[hse];omega);refine Rr ?_;exact hfin _ _ _ rfl (by rw[hvt,hres,hse])
     ·have h5:¬1024<sn:=by simpa using h4'
      rw[h4'];rw[Qz om] at hse;by_cases k4:kind=4
      ·rw[Q3 k4] at hse;have h40:=h4 om;have hB:=hB h40 hok.kids;rw[hbnd ⟨h40,hok.kids⟩] at hse;generalize c9 ns ⟨kind,name,lo,hi',ws,ls,vals,kids,.mk vk vn vs vks⟩=be at hB hse;subst k4;refine Rr ?_;refine aF.use1 bD hB 0 rfl (aS _) (.cons (.agg' (.cons (.sl 0 0 0 _ rfl) .nil)) (.cons (.same _ hxn) .nil)) ?_;rintro r m k ⟨rfl,rfl⟩;refine⟨_,rfl,nn,aS _, ?_⟩;by_cases be0:be=0
       ·subst be0;rw[hse] at hgo;refine Rr ?_;exact .mk (i+1) [(0,0),(1,1),(5,2),(6,3)] ⟨om,hgo⟩
         (aI _ rfl ⟨aJ 0 (aS _),⟨1,_,rfl,rfl,.cons (.agg (.cons (.sl 0 0 0 _ rfl) .nil)) .nil⟩,⟨5,_,rfl,rfl,.eq (aT _) (by rw[hlt])⟩,⟨6,_,rfl,rfl,.eq (aT _) (by rw[hst])⟩,trivial⟩ ⟨aM,⟨_,rfl,.slE rfl (by rw[hll])⟩,⟨_,rfl,.slE rfl (by rw[hsl])⟩,⟨_,rfl,.w64 om ⟨om,om⟩⟩,trivial⟩) om
       ·have d5:(be != 0)=true:=by simpa using be0
        have hres:=hstop (by rw[hse];exact be0);refine Rr ?_;rw[d5];refine Rr ?_;exact hfin _ _ _ rfl (by rw[hvt,hres,hse])
      ·rw[Qz k4] at hse;have d4:(kind == 4)=false:=by simpa using k4
       rw[hse] at hgo;refine Rr ?_;rw[d4];refine Rr ?_;exact .mk (i+1) [(0,0),(1,1),(5,2),(6,3)] ⟨om,hgo⟩
        (aI _ rfl ⟨aJ 0 (aS _),⟨1,_,rfl,rfl,.cons (.agg (.cons (.sl 0 0 0 _ rfl) .nil)) .nil⟩,⟨5,_,rfl,rfl,.eq (aT _) (by rw[hlt])⟩,⟨6,_,rfl,rfl,.eq (aT _) (by rw[hst])⟩,trivial⟩ ⟨aM,⟨_,rfl,.slE rfl (by rw[hll])⟩,⟨_,rfl,.slE rfl (by rw[hsl])⟩,⟨_,rfl,.w64 om ⟨om,om⟩⟩,trivial⟩) om
   ·have d1:(ne != 0)=true:=by simpa using n0
    have hse':=hse;rw[Q3 n0] at hse';have hres:=hstop (by rw[hse'];exact n0);rw[hse'] at hres;obtain⟨kind,name,lo,hi',ws,ls,vals,kids,⟨vk,vn,vs,vks⟩⟩:=x;refine Rr ?_;repeat((first|refine aK bx ?_|refine aD ex ?_);refine Rr ?_)
    refine hN.go ?_ (.cons (.int _ _) (.cons hxn .nil));refine Rr ?_;rw[d1];refine Rr ?_;exact hfin _ _ _ rfl (by rw[hvt,hres])
  ·have hin:i=ns.length:=by simp at h;omega
   subst hin;rw[RG] at hv0;refine Rr ?_;exact hfin _ _ _ rfl (by rw[hvt,hv0])
set_option maxHeartbeats 8000000
def zV:aU:=.mk 0 0 [] []
def Eh(v:aU):Nd:=⟨0,[],0,0,[],[],[],[],v⟩
def xZ(ns:List Nd)(l:List Int)(i k:Int):Nd:=
 let b:=cD (aH (ns.take ((mN l i 0).toNat+1))) (mN l i 0)
 if b.many=true∨6<b.vals.length then Eh (tP k) else⟨4,[],0,0,[],[],b.vals,mN l i 0::(List.range b.vals.length).map fun j:Nat=>mN l i ((j:Int)+1),zV⟩
theorem lF{l:List Int}{i j:Int}(hi:1<=i):0<=mN l i j/\mN l i j<i:=by
 unfold mN;have hp:=iH (l:=l) (i:=3*i+j+2) (most:=1000000) om;split
 ·exact⟨SG _ (SH hp.1 om),SB _ om⟩
 ·have h0:0<=((iO l (3*i+j+2) 1000000).tdiv 3).tmod 3:=SG _ (SH hp.1 om);omega
theorem PY(ns:List Nd)(l:List Int)(k:Int)(hl:∀x∈l,i64 x)(h1:1<=ns.length)(h2:ns.length<=1000)(hk0:0<=k)(hk1:k<=1000000)(hg:∀(j:Nat) (x:Nd),ns[j]? = some x->Go.Ax.f9 j x) :
    aF prog [] 24 [.agg [.sl 0 0 ns.length],.il 1 (aW l),.int .i64 ns.length,.int .i64 k] (tM ns) 1 fun r m _=>r=bL (xZ ns l ns.length k)/\m=tM ns:=by
  have hfin:∀(x:Nd) (r:AV) (mem:aN) (nx:Nat),lk mem 0=some (.row 59 12 (aY ns))->Cv mem [(0,0)] r (bL x)->x=xZ ns l ns.length k->nF 1 (fun r m (_:Nat)=>r=bL (xZ ns l ns.length k)/\m=tM ns) r mem nx:=by
    intro x r mem nx h0 hr hx;exact b8 (r':=bL x) (n':=1) (m':=tM ns) [(0,0)] rfl ⟨⟨0,_,rfl,h0,.same (aS _)⟩,trivial⟩ hr ⟨by rw[hx],rfl⟩
  have hK0:=Lq l ns.length 0 hl om om om om;obtain⟨q1,q2⟩:=lF (l:=l) (i:=(ns.length:Int)) (j:=0) om;obtain⟨q,hq⟩:=RB q1;have hb:xZ ns l ns.length k=if (cD (aH (ns.take (q+1))) q).many=true∨6<(cD (aH (ns.take (q+1))) q).vals.length then Eh (tP k) else⟨4,[],0,0,[],[],(cD (aH (ns.take (q+1))) q).vals,(q:Int)::(List.range (cD (aH (ns.take (q+1))) q).vals.length).map fun j:Nat=>mN l ns.length ((j:Int)+1),zV⟩:=by
    unfold xZ;simp only[hq,Q4]
  have hV:=Gf ns q om om fun j y _ hy=>hg j y hy
  rw[hq] at hK0;simp only[hb] at hfin ⊢;generalize cD (aH (ns.take (q+1))) q=b at hV hfin ⊢;obtain⟨bv,bm⟩:=b;simp only at hV hfin ⊢;have hLf:=Nk k hk0 hk1;obtain⟨⟨f1,f2,f3,f4⟩,hf⟩:∃f,f=tP k:=⟨_,rfl⟩
  rw[←hf] at hLf hfin ⊢;have hleaf:∀(mem:aN) (nx:Nat),lk mem 0=some (.row 59 12 (aY ns))->(bm=true∨6<bv.length)->nF 1 (fun r m (_:Nat)=>r=bL (if bm=true∨6<bv.length then Eh (.mk f1 f2 f3 f4) else⟨4,[],0,0,[],[],bv,(q:Int)::(List.range bv.length).map fun j:Nat=>mN l ns.length ((j:Int)+1),zV⟩)/\m=tM ns)
      (.agg [.int .i64 0,.str [],.int .i64 0,.int .i64 0,.nsl,.nsl,.nsl,.nsl,.int .i64 f1,.int .i64 f2,.str f3,.il 4 (aL f4)]) mem nx:=by
    intro mem nx h0 hc;refine hfin (Eh (.mk f1 f2 f3 f4)) _ mem nx h0 ?_ (by rw[Q3 hc]);exact .agg' (.s (.s (.s (.s (.cons (.nil 1) (.cons (.nil 1) (.cons (.nil 4) (.cons (.nil 1) (.s (.s (.s (.s .nil))))))))))))
  refine aO bD func24 rfl ?_;refine Rr ?_;refine hK0.go ?_;refine Rr ?_;refine aF.use1 bD hV 0 rfl (aS _) (.cons (.agg' (.cons (.sl 0 0 0 _ rfl) .nil)) (.s .nil)) ?_;rintro r m k' ⟨rfl,rfl⟩;refine⟨_,rfl,nn,aS _, ?_⟩;cases bm with
  | true=>
    refine Rr ?_;refine hLf.go ?_;refine Rr ?_;exact hleaf _ _ rfl (.inl rfl)
  | false=>
    refine Rr ?_;refine aE (fun h=>?_) (fun h=>?_)
    · have h6:6<bv.length:=by rw[aA] at h;simp at h;omega
      rw[h];refine Rr ?_;refine hLf.go ?_;refine Rr ?_;exact hleaf _ _ rfl (.inr h6)
    · have h6:¬6<bv.length:=by rw[aA] at h;simp at h;omega
      rw[h];refine Rr ?_;refine aZ.at bD (fun j:Nat=>j<=bv.length)
        (fun j=>⟨[(1,.il 1 (aW l)),(2,.int .i64 ns.length),(8,.ptr 2 0 0),(10,.il 4 (aL bv)),(12,.ptr 3 0 0),(13,.int .i64 j)],
          [(0,.row 59 12 (aY ns)),(2,.row 59 12 [.agg [.int .i64 0,.str [],.int .i64 0,.int .i64 0,.nsl,.nsl,.nsl,.nsl,.int .i64 0,.int .i64 0,.str [],.nsl]]),
           (3,.row 59 12 [.agg [.int .i64 4,.str [],.int .i64 0,.int .i64 0,.nsl,.nsl,.il 4 (aL bv),.sl 4 0 (j+1),.int .i64 0,.int .i64 0,.str [],.nsl]]),(4,.row 3 1 (aW ((q:Int)::(List.range j).map fun j:Nat=>mN l ns.length ((j:Int)+1))))],5,54⟩)
        (fun j=>bv.length-j) 0 [(0,0),(2,2),(4,3),(3,4)] (by simp)
        (aI _ rfl ⟨aJ 0 (aS _),aJ 2 cC,⟨4,_,rfl,rfl,.cons (.agg (.s (.s (.s (.s (.s (.s (.s (.cons (.sl 3 4 0 1 rfl) (.s (.s (.s (.s .nil))))))))))))) .nil⟩,⟨3,_,rfl,rfl,.eq (aT _) rfl⟩,trivial⟩
          ⟨aG,aG,aM,aG,aM,aG,trivial⟩) ?_
      intro j hj;refine Rr ?_;refine aE (fun h=>?_) (fun h=>?_)
      · have hjl:j<bv.length:=EF h
        have hw:IntKind.i64.wrap ((j:Int)+1)=(j:Int)+1:=fH ⟨om,om⟩;have hKj:=Lq l ns.length ((j:Int)+1) hl om om om om;refine Rr ?_;rw[hw];refine hKj.go ?_;refine Rt ?_;refine aK (bM rfl rfl (by rw[aC];simp) (by simp;omega)) ?_;refine Rt ?_;exact .mk (j+1) [(0,0),(2,2),(3,3),(16,4)] om
          (aI _ rfl ⟨aJ 0 (aS _),aJ 2 cC,⟨3,_,rfl,rfl,.cons (.agg (.s (.s (.s (.s (.s (.s (.s (.cons (.slE rfl (by simp)) (.s (.s (.s (.s .nil))))))))))))) .nil⟩,⟨16,_,rfl,rfl,.eq (aT _) (by rw[TC];simp[aW])⟩,trivial⟩
            ⟨aG,aG,aM,aG,aM,⟨_,rfl,.w64 om ⟨om,om⟩⟩,trivial⟩) om
      · have hje:j=bv.length:=by have:=EG h;omega
        subst hje;refine Rr ?_;refine hfin ⟨4,[],0,0,[],[],bv,(q:Int)::(List.range bv.length).map fun j:Nat=>mN l ns.length ((j:Int)+1),zV⟩ _ _ _ rfl ?_ (by rw[Qz (by simp;omega)]);exact .agg' (.s (.s (.s (.s (.cons (.nil 1) (.cons (.nil 1) (.s (.cons (.fz' (id:=4) rfl rfl (by rw[aC];simp) (by rw[Re];exact RJ (by rw[aC];simp)) (aT _)) (.s (.s (.s (.cons (.nil 4) .nil))))))))))))
set_option maxHeartbeats 8000000
theorem m9{α:Type}{p:α->Prop}{l:List α}{y:α}(h:∀x∈l,p x)(hy:p y):∀x∈l++[y],p x:=fun x hx=>by
 rcases Q9.1 hx with hx|hx
 ·exact h x hx
 ·simp at hx;rw[hx];exact hy
theorem Ij{ns:List Nd}(hT:g9 ns)(h1:1<=ns.length)(h2:ns.length<=1000){l:List Int}{k:Int}(hk:0<=k):Kn (xZ ns l ns.length k):=by
 have z0:i64 0:=⟨om,om⟩
 unfold xZ;simp only;split
 ·have:=ED k hk;exact j9 z0 (by simp) z0 z0 (by simp) (by simp) (by simp) (by simp) (by simp) (by simp) (by simp) (by simp) this.1 om
 ·rename_i hc;rw[not_or] at hc;have hb:=fun j=>lF (l:=l) (i:=(ns.length:Int)) (j:=j) om
  obtain⟨q0,q1⟩:=hb 0;have hv:bI [] (ns.take ((mN l ns.length 0).toNat+1))=0:=Go.Ax.f6 (r:=ns.drop ((mN l ns.length 0).toNat+1)) (by rw[List.take_append_drop];exact hT.valid);have ho:∀x∈ns.take ((mN l ns.length 0).toNat+1),pL x:=fun x hx=>hT.ok x (Rk hx)
  have hs:=FF _ ho hv (mN l ns.length 0) q0 (by simp;omega);have hg:=nE (gD _ (g8 _ ho hv)) (mN l ns.length 0);refine j9 ⟨om,om⟩ (by simp) z0 z0 (by simp) (by simp) (by simp) (by simp) om (fun v hv=>⟨hg.2 v hv,by have:=hs v hv;omega⟩) (by simp;omega) (fun w hw=>?_) (gG z0 z0) (by simp[zV,aV,bT]);rcases Qw.1 hw with rfl|hw
  ·exact⟨om,om⟩
  ·obtain⟨j,_,rfl⟩:=RD.1 hw;have:=hb ((j:Int)+1);exact⟨om,om⟩
theorem dO.joinAt{P:Program}{Γ:List (Nat × AV)}{B:Nat}{α:Type}{rest:Code}{Q:Exit->St->Prop}{G:Prop}(hΓ:∀p∈Γ,NN p.2)(R:α->Prop)(J:α->St)
  (h1:(∀(a:α) (s:St) (σ:List (Nat × Nat)),R a->Conv B σ s (J a)->dO P Γ B rest s Q)->G) (h2:∀a,R a->dO P Γ B rest (J a) Q):G:=h1 fun a s σ hr hc=>dO.conv hΓ hc (h2 a hr)
theorem P2(l:List Int)(hl:∀x∈l,i64 x) :
  aF prog [] 5 [.il 1 (aW l)] [] 0 fun r m n=>∃ns:List Nd,g9 ns/\ns.length<=14/\r = .agg [.sl 0 0 ns.length]/\m=tM ns/\n=1:=by
 have z0:i64 0:=⟨om,om⟩
 have hP0:=Ec l 0 15 hl om;obtain⟨n0,n1⟩:=iH (l:=l) (i:=0) (most:=15) om;generalize iO l 0 15=nn0 at hP0 n0 n1;obtain⟨n,rfl⟩:=RB n0;refine aO bD func5 rfl ?_;refine Rr ?_;refine hP0.go ?_;refine Rr ?_;refine aZ.ph 59 12 ?_;refine aZ.at bD (fun ns:List Nd=>g9 ns/\ns.length<=n) (fun ns=>⟨[(0,.il 1 (aW l)),(2,.ptr 0 0 0),(3,.ptr 1 0 0),(4,.int .i64 n),(5,.int .i64 ns.length)],[(0,.row 25 1 [.agg [.nsl]]),(1,.row 25 1 [.agg [.sl 2 0 ns.length]]),(2,.row 59 12 (aY ns))],3,181⟩) (fun ns=>n-ns.length) [] [(0,0),(1,1),(2,2)] ⟨⟨by simp[bI],by simp⟩,by simp⟩
  (aI _ rfl ⟨aJ 0 cC,⟨1,_,rfl,rfl,.cons (.agg (.cons (.nslk 2 2 _ rfl rfl) .nil)) .nil⟩,aJ 2 .nil,trivial⟩ ⟨aG,aM,aM,aG,aG,trivial⟩) ?_
 rintro ns ⟨hT,hns⟩;refine Rr ?_;refine aE (fun h=>?_) (fun h=>?_)
 ·have hlt:ns.length<n:=by simpa using h
  have hw1:IntKind.i64.wrap (1+(ns.length:Int))=1+(ns.length:Int):=fH ⟨om,om⟩;have hPk:=Ec l (1+(ns.length:Int)) 1000000 hl om;obtain⟨kk0,kk1⟩:=iH (l:=l) (i:=1+(ns.length:Int)) (most:=1000000) om;generalize iO l (1+(ns.length:Int)) 1000000=kk at hPk kk0 kk1;have m8:=gP kk0 (show (0:Int)<8 by omega);have q8:=zQ kk0 (show (0:Int)<8 by omega);have q80:0<=kk.tdiv 8:=SH kk0 om;have hw8:IntKind.i64.wrap (kk.tdiv 8)=kk.tdiv 8:=fH ⟨om,om⟩;have m82:=gP q80 (show (0:Int)<2 by omega);refine Rr ?_;rw[hw1];refine hPk.go ?_
  refine' dO.joinAt (P:=prog) (B:=0) bD (fun kd:Int=>0<=kd/\kd<=4/\(2<=kd->2<=ns.length)) (fun kd=>⟨[(0,.il 1 (aW l)),(2,.ptr 0 0 0),(3,.ptr 1 0 0),(4,.int .i64 n),(5,.int .i64 ns.length),(6,.int .i64 kk),(7,.ptr 3 0 0)],[(0,.row 25 1 [.agg [.nsl]]),(1,.row 25 1 [.agg [.sl 2 0 ns.length]]),(2,.row 59 12 (aY ns)),(3,.row 59 12 [.agg [.int .i64 kd,.str [],.int .i64 0,.int .i64 0,.nsl,.nsl,.nsl,.nsl,.int .i64 0,.int .i64 0,.str [],.nsl]])],4,181⟩) (fun hJ=>?_) (fun kd hkd=>?_)
  rotate_left 2
  ·by_cases hi2:ns.length<2
   ·have d2:decide ((ns.length:Int)<2)=true:=by simp;omega
    refine Rr ?_;rw[d2];refine Rr ?_;rw[hw8];obtain⟨kd,hkd⟩:∃kd,kd=(kk.tdiv 8).tmod 2:=⟨_,rfl⟩
    rw[←hkd] at m82 ⊢;have d5:decide (kd>5)=false:=by simp;omega
    refine Rr ?_;rw[d5]
    conv=>whnf
    refine dO.many ?_
    conv=>whnf
    exact hJ kd _ [(0,0),(1,1),(2,2),(3,3)] ⟨om,om,om⟩ (aI _ rfl ⟨aJ 0 cC,⟨1,_,rfl,rfl,.cons (.agg (.cons (.sl 2 2 0 _ rfl) .nil)) .nil⟩,aJ 2 (aS _),aJ 3 cC,trivial⟩ ⟨aG,aM,aM,aG,aG,aG,aM,trivial⟩)
   ·have d2:decide ((ns.length:Int)<2)=false:=by simp;omega
    refine Rr ?_;rw[d2];refine Rr ?_;have hkd5:(kk.tmod 8 == 5)=false∨(kk.tmod 8 == 5)=true:=by cases (kk.tmod 8 == 5)<;>simp
    rcases hkd5 with e5|e5
    ·have n5:kk.tmod 8≠5:=by simpa using e5
     obtain⟨k8,hk8⟩:∃k8,k8=kk.tmod 8:=⟨_,rfl⟩
     rw[←hk8] at e5 n5 m8 ⊢;rcases(show k8<5∨5<k8 by omega) with k5|k5
     ·have d5:decide (k8>5)=false:=by simp;omega
      rw[e5];refine Rr ?_;rw[d5]
      conv=>whnf
      refine dO.many ?_
      conv=>whnf
      exact hJ k8 _ [(0,0),(1,1),(2,2),(3,3)] ⟨om,om,om⟩ (aI _ rfl ⟨aJ 0 cC,⟨1,_,rfl,rfl,.cons (.agg (.cons (.sl 2 2 0 _ rfl) .nil)) .nil⟩,aJ 2 (aS _),aJ 3 cC,trivial⟩ ⟨aG,aM,aM,aG,aG,aG,aM,trivial⟩)
     ·have d5:decide (k8>5)=true:=by simp;omega
      have hw4:IntKind.i64.wrap (k8-4)=k8-4:=fH ⟨om,om⟩;rw[e5];refine Rr ?_;rw[d5]
      conv=>whnf
      refine dO.many ?_
      conv=>whnf
      refine jD.many ?_
      conv=>whnf
      rw[hw4];exact hJ (k8-4) _ [(0,0),(1,1),(2,2),(3,3)] ⟨om,om,om⟩ (aI _ rfl ⟨aJ 0 cC,⟨1,_,rfl,rfl,.cons (.agg (.cons (.sl 2 2 0 _ rfl) .nil)) .nil⟩,aJ 2 (aS _),aJ 3 cC,trivial⟩ ⟨aG,aM,aM,aG,aG,aG,aM,trivial⟩)
    ·rw[e5];refine Rr ?_;rw[hw8];obtain⟨kd,hkd⟩:∃kd,kd=(kk.tdiv 8).tmod 2:=⟨_,rfl⟩
     rw[←hkd] at m82 ⊢;have d5:decide (kd>5)=false:=by simp;omega
     refine Rr ?_;rw[d5]
     conv=>whnf
     refine dO.many ?_
     conv=>whnf
     exact hJ kd _ [(0,0),(1,1),(2,2),(3,3)] ⟨om,om,om⟩ (aI _ rfl ⟨aJ 0 cC,⟨1,_,rfl,rfl,.cons (.agg (.cons (.sl 2 2 0 _ rfl) .nil)) .nil⟩,aJ 2 (aS _),aJ 3 cC,trivial⟩ ⟨aG,aM,aM,aG,aG,aG,aM,trivial⟩)
  ·obtain⟨kd0,kd4,kd2⟩:=hkd;refine Rr ?_;refine Ke bD (fun x:Nd=>Kn x) (fun x=>⟨[(0,.il 1 (aW l)),(2,.ptr 0 0 0),(3,.ptr 1 0 0),(4,.int .i64 n),(5,.int .i64 ns.length),(6,.int .i64 kk),(7,.ptr 3 0 0)],[(0,.row 25 1 [.agg [.nsl]]),(1,.row 25 1 [.agg [.sl 2 0 ns.length]]),(2,.row 59 12 (aY ns)),(3,.row 59 12 [bL x])],4,181⟩) (fun Qr hQ=>?_) (fun x hx=>?_)
   ·rcases(show kd=0∨kd=1∨kd=2∨kd=3∨kd=4 by omega) with rfl|rfl|rfl|rfl|rfl
    ·have hLf:=Nk (kk.tdiv 8) (SH kk0 om) (by have:=zQ kk0 (show (0:Int)<8 by omega);omega);have hlo:=ED (kk.tdiv 8) (SH kk0 om);generalize tP (kk.tdiv 8)=f at hLf hlo;obtain⟨f1,f2,f3,f4⟩:=f;refine Rr ?_;rw[hw8];refine hLf.go ?_;refine Rr ?_;exact hQ (Eh (.mk f1 f2 f3 f4)) _ [(0,0),(1,1),(2,2),(3,3)] (j9 z0 (by simp) z0 z0 (by simp) (by simp) (by simp) (by simp) (by simp) (by simp) (by simp) (by simp) hlo.1 om) (aI _ rfl ⟨aJ 0 cC,⟨1,_,rfl,rfl,.cons (.agg (.cons (.sl 2 2 0 _ rfl) .nil)) .nil⟩,aJ 2 (aS _),⟨3,_,rfl,rfl,.cons (.agg (.s (.s (.s (.s (.cons (.nil 1) (.cons (.nil 1) (.cons (.nil 4) (.cons (.nil 1) (.s (.s (.s (.s .nil))))))))))))) .nil⟩,trivial⟩ ⟨aG,aM,aM,aG,aG,aG,aM,trivial⟩)
    ·refine Rr ?_;refine aE (fun h=>?_) (fun h=>?_)
     ·refine Rr ?_;exact hQ ⟨1,[],_,_,[],[],[],[],zV⟩ _ [(0,0),(1,1),(2,2),(3,3)] (j9 ⟨om,om⟩ (by simp) (JG _) (JG _) (by simp) (by simp) (by simp) (by simp) (by simp) (by simp) (by simp) (by simp) (gG z0 z0) (by simp[zV,aV,bT])) (aI _ rfl ⟨aJ 0 cC,⟨1,_,rfl,rfl,.cons (.agg (.cons (.sl 2 2 0 _ rfl) .nil)) .nil⟩,aJ 2 (aS _),⟨3,_,rfl,rfl,.cons (.agg (.s (.s (.s (.s (.cons (.nil 1) (.cons (.nil 1) (.cons (.nil 4) (.cons (.nil 1) (.s (.s (.s (.cons (.nil 4) .nil))))))))))))) .nil⟩,trivial⟩ ⟨aG,aM,aM,aG,aG,aG,aM,trivial⟩)
     ·refine Rr ?_;exact hQ ⟨1,[],_,_,[],[],[],[],zV⟩ _ [(0,0),(1,1),(2,2),(3,3)] (j9 ⟨om,om⟩ (by simp) (JG _) (JG _) (by simp) (by simp) (by simp) (by simp) (by simp) (by simp) (by simp) (by simp) (gG z0 z0) (by simp[zV,aV,bT])) (aI _ rfl ⟨aJ 0 cC,⟨1,_,rfl,rfl,.cons (.agg (.cons (.sl 2 2 0 _ rfl) .nil)) .nil⟩,aJ 2 (aS _),⟨3,_,rfl,rfl,.cons (.agg (.s (.s (.s (.s (.cons (.nil 1) (.cons (.nil 1) (.cons (.nil 4) (.cons (.nil 1) (.s (.s (.s (.cons (.nil 4) .nil))))))))))))) .nil⟩,trivial⟩ ⟨aG,aM,aM,aG,aG,aG,aM,trivial⟩)
    ·refine Rr ?_;rcases(show decide ((IntKind.i64.wrap (kk.tdiv 32)).tmod 3>0)=true∨decide ((IntKind.i64.wrap (kk.tdiv 32)).tmod 3>0)=false by cases decide ((IntKind.i64.wrap (kk.tdiv 32)).tmod 3>0)<;>simp) with hB|hB
     ·have hB:decide ((IntKind.i64.wrap (kk.tdiv 32)).tmod 3>0)=true:=hB;refine aZ.ph 3 1 ?_;refine aZ.ph 3 1 ?_;refine aZ.ph 9 1 ?_;refine aZ.at bD (fun a:List Int × List (List UInt8) × List Int=>a.1.length<=4/\a.2.2.length=a.1.length/\(∀w∈a.1,i64 w)/\(∀w∈a.2.2,i64 w)/\(∀s∈a.2.1,s∈uP)/\a.2.1.length=a.1.length)
       (fun a=>⟨[(0,.il 1 (aW l)),(2,.ptr 0 0 0),(3,.ptr 1 0 0),(4,.int .i64 n),(5,.int .i64 ns.length),(6,.int .i64 kk),(7,.ptr 3 0 0),(8,.int .i64 a.1.length)],[(0,.row 25 1 [.agg [.nsl]]),(1,.row 25 1 [.agg [.sl 2 0 ns.length]]),(2,.row 59 12 (aY ns)),(3,.row 59 12 [.agg [.int .i64 2,.str [],.int .i64 0,.int .i64 0,.sl 4 0 a.1.length,.sl 6 0 a.1.length,.nsl,.sl 5 0 a.1.length,.int .i64 0,.int .i64 0,.str [],.nsl]]),(4,.row 3 1 (aW a.1)),(5,.row 3 1 (aW a.2.2)),(6,.row 9 1 (Ae a.2.1))],7,181⟩)
       (fun a=>4-a.1.length) ([],[],[]) [(0,0),(1,1),(2,2),(3,3),(4,4),(5,5),(6,6)] (by simp)
       (aI _ rfl ⟨aJ 0 cC,⟨1,_,rfl,rfl,.cons (.agg (.cons (.sl 2 2 0 _ rfl) .nil)) .nil⟩,aJ 2 (aS _),⟨3,_,rfl,rfl,.cons (.agg (.s (.s (.s (.s (.cons (.nslk 4 4 _ rfl rfl) (.cons (.nslk 6 6 _ rfl rfl) (.s (.cons (.nslk 5 5 _ rfl rfl) (.s (.s (.s (.s .nil))))))))))))) .nil⟩,aJ 4 .nil,aJ 5 .nil,aJ 6 .nil,trivial⟩ ⟨aG,aM,aM,aG,aG,aG,aM,aG,trivial⟩) ?_
      rintro⟨wl,ll,kl⟩ ⟨j1,j2,j3,j4,j5,j6⟩;simp only at j1 j2 j3 j4 j5 j6;refine Rr ?_;refine aE (fun h=>?_) (fun h=>?_)
      ·have hjc:wl.length<4:=by rw[hw8] at h;have:=gP q80 (show (0:Int)<4 by omega);simp at h;omega
       have hwj:IntKind.i64.wrap ((ns.length:Int)+(wl.length:Int))=(ns.length:Int)+wl.length:=fH ⟨om,om⟩;have hPj:=Ec l ((ns.length:Int)+wl.length) 5 hl om;have hPb:=iH (l:=l) (i:=(ns.length:Int)+wl.length) (most:=5) om;generalize iO l ((ns.length:Int)+wl.length) 5=pw at hPj hPb;have hKj:=Lq l ns.length wl.length hl om om om om;have hKb:=lF (l:=l) (i:=(ns.length:Int)) (j:=(wl.length:Int)) om;generalize mN l ns.length wl.length=kw at hKj hKb;refine Rr ?_;rw[hwj];refine hPj.go ?_;refine Rt ?_;refine aK (bM rfl rfl (by rw[aC]) (by simp;omega)) ?_;refine Rt ?_;refine hKj.go ?_;refine Rt ?_;refine aK (bM rfl rfl (by rw[aC,j2]) (by simp;omega)) ?_;refine Rt ?_;rw[hB];refine Rr ?_;obtain⟨qn,hqn,hqe⟩:∃qn:Nat,qn<4/\(IntKind.i64.wrap ((wl.length:Int)+IntKind.i64.wrap (kk.tdiv 96))).tmod 4=(qn:Int):=by
        have a0:=zQ kk0 (show (0:Int)<96 by omega);have a1:0<=kk.tdiv 96:=SH kk0 om;have e1:IntKind.i64.wrap (kk.tdiv 96)=kk.tdiv 96:=fH ⟨om,om⟩;have e2:IntKind.i64.wrap ((wl.length:Int)+kk.tdiv 96)=(wl.length:Int)+kk.tdiv 96:=fH ⟨om,om⟩;rw[e1,e2];have:=gP (show 0<=(wl.length:Int)+kk.tdiv 96 by omega) (show (0:Int)<4 by omega);exact⟨(((wl.length:Int)+kk.tdiv 96).tmod 4).toNat,om,om⟩
       obtain⟨sa,hsa,hsm⟩:∃sa,([AV.str [97],AV.str [98],AV.str [99],AV.str [100]])[0+((qn:Nat):Int).toNat]? = some (.str sa)/\sa∈uP:=by
        rcases(show qn=0∨qn=1∨qn=2∨qn=3 by omega) with rfl|rfl|rfl|rfl
        ·exact⟨[97],rfl,by simp[uP]⟩
        ·exact⟨[98],rfl,by simp[uP]⟩
        ·exact⟨[99],rfl,by simp[uP]⟩
        ·exact⟨[100],rfl,by simp[uP]⟩
       have bsa:Nat.blt ((qn:Nat):Int).toNat 4=true:=Qy (by simp;omega);rw[hqe];refine Rr ?_;repeat((first|refine bN ?_|refine aK bsa ?_|refine aD hsa ?_);refine Rr ?_)
       refine aK (bM rfl rfl (by rw[a8,j6]) (by simp;omega)) ?_;refine Rr ?_;repeat((first|refine bN ?_|refine aK bsa ?_|refine aD hsa ?_);refine Rr ?_)
       exact .mk (wl++[IntKind.i64.wrap (1+pw)],ll++[sa],kl++[kw]) [(0,0),(1,1),(2,2),(3,3),(19,4),(30,5),(45,6)] ⟨by simp;omega,by simp;omega,m9 j3 (JG _),m9 j4 ⟨om,om⟩,m9 j5 hsm,by simp;omega⟩
        (aI _ rfl ⟨aJ 0 cC,⟨1,_,rfl,rfl,.cons (.agg (.cons (.sl 2 2 0 _ rfl) .nil)) .nil⟩,aJ 2 (aS _),⟨3,_,rfl,rfl,.cons (.agg (.s (.s (.s (.s (.cons (.slE rfl (by simp)) (.cons (.slE rfl (by simp)) (.s (.cons (.slE rfl (by simp)) (.s (.s (.s (.s .nil))))))))))))) .nil⟩,⟨19,_,rfl,rfl,.eq (aT _) (by simp[aW])⟩,⟨30,_,rfl,rfl,.eq (aT _) (by simp[aW])⟩,⟨45,_,rfl,rfl,.eq (y8 _) (by simp[Ae])⟩,trivial⟩ ⟨aG,aM,aM,aG,aG,aG,aM,⟨_,rfl,.w64 (by simp) ⟨by simp;omega,by simp;omega⟩⟩,trivial⟩) (by simp;omega)
      ·refine Rr ?_;exact hQ ⟨2,[],0,0,wl,ll,[],kl,zV⟩ _ [(0,0),(1,1),(2,2),(3,3)] (j9 ⟨om,om⟩ (by simp) z0 z0 om j3 om j5 (by simp) (by simp) om j4 (gG z0 z0) (by simp[zV,aV,bT])) (aI _ rfl ⟨aJ 0 cC,⟨1,_,rfl,rfl,.cons (.agg (.cons (.sl 2 2 0 _ rfl) .nil)) .nil⟩,aJ 2 (aS _),⟨3,_,rfl,rfl,.cons (.agg (.s (.s (.s (.s (.cons (.fz' (id:=4) rfl rfl (by rw[aC];first|omega|(simp only;omega)) (by rw[Re];exact RJ (by rw[aC];first|omega|(simp only;omega))) (aT _)) (.cons (.fz' (id:=6) rfl rfl (by rw[a8];first|omega|(simp only;omega)) (by rw[Re];exact RJ (by rw[a8];first|omega|(simp only;omega))) (y8 _)) (.cons (.nil 4) (.cons (.fz' (id:=5) rfl rfl (by rw[aC];first|omega|(simp only;omega)) (by rw[Re];exact RJ (by rw[aC];first|omega|(simp only;omega))) (aT _)) (.s (.s (.s (.cons (.nil 4) .nil))))))))))))) .nil⟩,trivial⟩ ⟨aG,aM,aM,aG,aG,aG,aM,trivial⟩)
     ·have hB:decide ((IntKind.i64.wrap (kk.tdiv 32)).tmod 3>0)=false:=hB;refine aZ.ph 3 1 ?_;refine aZ.ph 3 1 ?_;refine aZ.at bD (fun a:List Int × List (List UInt8) × List Int=>a.1.length<=4/\a.2.2.length=a.1.length/\(∀w∈a.1,i64 w)/\(∀w∈a.2.2,i64 w)/\(∀s∈a.2.1,s∈uP)/\a.2.1.length=0)
       (fun a=>⟨[(0,.il 1 (aW l)),(2,.ptr 0 0 0),(3,.ptr 1 0 0),(4,.int .i64 n),(5,.int .i64 ns.length),(6,.int .i64 kk),(7,.ptr 3 0 0),(8,.int .i64 a.1.length)],[(0,.row 25 1 [.agg [.nsl]]),(1,.row 25 1 [.agg [.sl 2 0 ns.length]]),(2,.row 59 12 (aY ns)),(3,.row 59 12 [.agg [.int .i64 2,.str [],.int .i64 0,.int .i64 0,.sl 4 0 a.1.length,.nsl,.nsl,.sl 5 0 a.1.length,.int .i64 0,.int .i64 0,.str [],.nsl]]),(4,.row 3 1 (aW a.1)),(5,.row 3 1 (aW a.2.2))],6,181⟩)
       (fun a=>4-a.1.length) ([],[],[]) [(0,0),(1,1),(2,2),(3,3),(4,4),(5,5)] (by simp)
       (aI _ rfl ⟨aJ 0 cC,⟨1,_,rfl,rfl,.cons (.agg (.cons (.sl 2 2 0 _ rfl) .nil)) .nil⟩,aJ 2 (aS _),⟨3,_,rfl,rfl,.cons (.agg (.s (.s (.s (.s (.cons (.nslk 4 4 _ rfl rfl) (.s (.s (.cons (.nslk 5 5 _ rfl rfl) (.s (.s (.s (.s .nil))))))))))))) .nil⟩,aJ 4 .nil,aJ 5 .nil,trivial⟩ ⟨aG,aM,aM,aG,aG,aG,aM,aG,trivial⟩) ?_
      rintro⟨wl,ll,kl⟩ ⟨j1,j2,j3,j4,j5,j6⟩;simp only at j1 j2 j3 j4 j5 j6;refine Rr ?_;refine aE (fun h=>?_) (fun h=>?_)
      ·have hjc:wl.length<4:=by rw[hw8] at h;have:=gP q80 (show (0:Int)<4 by omega);simp at h;omega
       have hwj:IntKind.i64.wrap ((ns.length:Int)+(wl.length:Int))=(ns.length:Int)+wl.length:=fH ⟨om,om⟩;have hPj:=Ec l ((ns.length:Int)+wl.length) 5 hl om;have hPb:=iH (l:=l) (i:=(ns.length:Int)+wl.length) (most:=5) om;generalize iO l ((ns.length:Int)+wl.length) 5=pw at hPj hPb;have hKj:=Lq l ns.length wl.length hl om om om om;have hKb:=lF (l:=l) (i:=(ns.length:Int)) (j:=(wl.length:Int)) om;generalize mN l ns.length wl.length=kw at hKj hKb;refine Rr ?_;rw[hwj];refine hPj.go ?_;refine Rt ?_;refine aK (bM rfl rfl (by rw[aC]) (by simp;omega)) ?_;refine Rt ?_;refine hKj.go ?_;refine Rt ?_;refine aK (bM rfl rfl (by rw[aC,j2]) (by simp;omega)) ?_;refine Rt ?_;rw[hB];refine Rr ?_;exact .mk (wl++[IntKind.i64.wrap (1+pw)],ll,kl++[kw]) [(0,0),(1,1),(2,2),(3,3),(18,4),(29,5)] ⟨by simp;omega,by simp;omega,m9 j3 (JG _),m9 j4 ⟨om,om⟩,j5,j6⟩
        (aI _ rfl ⟨aJ 0 cC,⟨1,_,rfl,rfl,.cons (.agg (.cons (.sl 2 2 0 _ rfl) .nil)) .nil⟩,aJ 2 (aS _),⟨3,_,rfl,rfl,.cons (.agg (.s (.s (.s (.s (.cons (.slE rfl (by simp)) (.s (.s (.cons (.slE rfl (by simp)) (.s (.s (.s (.s .nil))))))))))))) .nil⟩,⟨18,_,rfl,rfl,.eq (aT _) (by simp[aW])⟩,⟨29,_,rfl,rfl,.eq (aT _) (by simp[aW])⟩,trivial⟩ ⟨aG,aM,aM,aG,aG,aG,aM,⟨_,rfl,.w64 (by simp) ⟨by simp;omega,by simp;omega⟩⟩,trivial⟩) (by simp;omega)
      ·refine Rr ?_;obtain rfl:ll=[]:=Ru.1 j6;exact hQ ⟨2,[],0,0,wl,[],[],kl,zV⟩ _ [(0,0),(1,1),(2,2),(3,3)] (j9 ⟨om,om⟩ (by simp) z0 z0 om j3 (by simp) (by simp) (by simp) (by simp) om j4 (gG z0 z0) (by simp[zV,aV,bT])) (aI _ rfl ⟨aJ 0 cC,⟨1,_,rfl,rfl,.cons (.agg (.cons (.sl 2 2 0 _ rfl) .nil)) .nil⟩,aJ 2 (aS _),⟨3,_,rfl,rfl,.cons (.agg (.s (.s (.s (.s (.cons (.fz' (id:=4) rfl rfl (by rw[aC];first|omega|(simp only;omega)) (by rw[Re];exact RJ (by rw[aC];first|omega|(simp only;omega))) (aT _)) (.cons (.nil 1) (.cons (.nil 4) (.cons (.fz' (id:=5) rfl rfl (by rw[aC];first|omega|(simp only;omega)) (by rw[Re];exact RJ (by rw[aC];first|omega|(simp only;omega))) (aT _)) (.s (.s (.s (.cons (.nil 4) .nil))))))))))))) .nil⟩,trivial⟩ ⟨aG,aM,aM,aG,aG,aG,aM,trivial⟩)
    ·obtain⟨qn,hqn,hqe⟩:∃qn:Nat,qn<3/\(IntKind.i64.wrap (kk.tdiv 8)).tmod 3=(qn:Int):=by
      rw[hw8];have:=gP q80 (show (0:Int)<3 by omega);exact⟨((kk.tdiv 8).tmod 3).toNat,om,om⟩
     obtain⟨nm,hnm,hnl⟩:∃nm,([AV.str [],AV.str [80,97,105,114],AV.str []])[0+((qn:Nat):Int).toNat]? = some (.str nm)/\nm.length<=4:=by
      rcases(show qn=0∨qn=1∨qn=2 by omega) with rfl|rfl|rfl
      ·exact⟨[],rfl,by simp⟩
      ·exact⟨[80,97,105,114],rfl,by simp⟩
      ·exact⟨[],rfl,by simp⟩
     have bnm:Nat.blt ((qn:Nat):Int).toNat 3=true:=Qy (by simp;omega);refine Rr ?_;rw[hqe];refine Rr ?_;repeat((first|refine bN ?_|refine aK bnm ?_|refine aD hnm ?_);refine Rr ?_)
     refine aZ.ph 3 1 ?_;refine aZ.at bD (fun a:List Int=>a.length<=3/\∀w∈a,i64 w)
      (fun a=>⟨[(0,.il 1 (aW l)),(2,.ptr 0 0 0),(3,.ptr 1 0 0),(4,.int .i64 n),(5,.int .i64 ns.length),(6,.int .i64 kk),(7,.ptr 3 0 0),(9,.int .i64 a.length)],[(0,.row 25 1 [.agg [.nsl]]),(1,.row 25 1 [.agg [.sl 2 0 ns.length]]),(2,.row 59 12 (aY ns)),(3,.row 59 12 [.agg [.int .i64 3,.str nm,.int .i64 0,.int .i64 0,.nsl,.nsl,.nsl,.sl 4 0 a.length,.int .i64 0,.int .i64 0,.str [],.nsl]]),(4,.row 3 1 (aW a))],5,181⟩)
      (fun a=>4-a.length) [] [(0,0),(1,1),(2,2),(3,3),(5,4)] (by simp)
      (aI _ rfl ⟨aJ 0 cC,⟨1,_,rfl,rfl,.cons (.agg (.cons (.sl 2 2 0 _ rfl) .nil)) .nil⟩,aJ 2 (aS _),⟨3,_,rfl,rfl,.cons (.agg (.s (.s (.s (.s (.s (.s (.s (.cons (.nslk 5 4 _ rfl rfl) (.s (.s (.s (.s .nil))))))))))))) .nil⟩,aJ 5 .nil,trivial⟩ ⟨aG,aM,aM,aG,aG,aG,aM,aG,trivial⟩) ?_
     rintro kl ⟨j1,j4⟩;refine Rr ?_;refine aE (fun h=>?_) (fun h=>?_)
     ·have hjc:kl.length<3:=by
       have a0:=zQ kk0 (show (0:Int)<24 by omega);have a1:0<=kk.tdiv 24:=SH kk0 om;have e1:IntKind.i64.wrap (kk.tdiv 24)=kk.tdiv 24:=fH ⟨om,om⟩;rw[e1] at h;have:=gP a1 (show (0:Int)<4 by omega);simp at h;omega
      have hKj:=Lq l ns.length kl.length hl om om om om;have hKb:=lF (l:=l) (i:=(ns.length:Int)) (j:=(kl.length:Int)) om;generalize mN l ns.length kl.length=kw at hKj hKb;refine Rr ?_;refine hKj.go ?_;refine Rt ?_;refine aK (bM rfl rfl (by rw[aC]) (by simp;omega)) ?_;refine Rt ?_;exact .mk (kl++[kw]) [(0,0),(1,1),(2,2),(3,3),(15,4)] ⟨by simp;omega,m9 j4 ⟨om,om⟩⟩
       (aI _ rfl ⟨aJ 0 cC,⟨1,_,rfl,rfl,.cons (.agg (.cons (.sl 2 2 0 _ rfl) .nil)) .nil⟩,aJ 2 (aS _),⟨3,_,rfl,rfl,.cons (.agg (.s (.s (.s (.s (.s (.s (.s (.cons (.slE rfl (by simp)) (.s (.s (.s (.s .nil))))))))))))) .nil⟩,⟨15,_,rfl,rfl,.eq (aT _) (by simp[aW])⟩,trivial⟩ ⟨aG,aM,aM,aG,aG,aG,aM,⟨_,rfl,.w64 (by simp) ⟨by simp;omega,by simp;omega⟩⟩,trivial⟩) (by simp;omega)
     ·refine Rr ?_;exact hQ ⟨3,nm,0,0,[],[],[],kl,zV⟩ _ [(0,0),(1,1),(2,2),(3,3)] (j9 ⟨om,om⟩ om z0 z0 (by simp) (by simp) (by simp) (by simp) (by simp) (by simp) om j4 (gG z0 z0) (by simp[zV,aV,bT])) (aI _ rfl ⟨aJ 0 cC,⟨1,_,rfl,rfl,.cons (.agg (.cons (.sl 2 2 0 _ rfl) .nil)) .nil⟩,aJ 2 (aS _),⟨3,_,rfl,rfl,.cons (.agg (.s (.s (.s (.s (.cons (.nil 1) (.cons (.nil 1) (.cons (.nil 4) (.cons (.fz' (id:=4) rfl rfl (by rw[aC];first|omega|(simp only;omega)) (by rw[Re];exact RJ (by rw[aC];first|omega|(simp only;omega))) (aT _)) (.s (.s (.s (.cons (.nil 4) .nil))))))))))))) .nil⟩,trivial⟩ ⟨aG,aM,aM,aG,aG,aG,aM,trivial⟩)
    ·have hBd:=PY ns l kk hl om om kk0 om hT.good;have hBg:=Ij hT om om (l:=l) (k:=kk) kk0;have hns:ns.length<=14:=om;generalize xZ ns l ns.length kk=bx at hBd hBg;have hbn:=aQ bx;refine Rr ?_;refine aF.use1 bD hBd 2 rfl (aS _) (.cons (.agg' (.cons (.sl 2 0 0 _ rfl) .nil)) (.s (.s (.s .nil)))) ?_;rintro r m k' ⟨rfl,rfl⟩;refine⟨_,rfl,hbn,aS _, ?_⟩;obtain⟨kind,name,lo,hi,ws,ls,vals,kids,⟨vk,vn,vs,vks⟩⟩:=bx;refine Rr ?_;exact hQ ⟨kind,name,lo,hi,ws,ls,vals,kids,.mk vk vn vs vks⟩ _ [(0,0),(1,1),(2,2),(3,3)] hBg (aI _ rfl ⟨aJ 0 cC,⟨1,_,rfl,rfl,.cons (.agg (.cons (.sl 2 2 0 _ rfl) .nil)) .nil⟩,aJ 2 (aS _),aJ 3 (.cons (aQ ⟨kind,name,lo,hi,ws,ls,vals,kids,.mk vk vn vs vks⟩) .nil),trivial⟩ ⟨aG,aM,aM,aG,aG,aG,aM,trivial⟩)
   ·have hxn:=aQ x;have hV:=OA (ns++[x]) (by simp;omega) (fun y hy=>by
     rcases Q9.1 hy with hy|hy
     ·have:=hT.gen y hy;exact⟨this.ok,by have:=this.vals;omega⟩
     ·simp at hy;rw[hy];exact⟨hx.ok,by have:=hx.vals;omega⟩)
    have hnn2:=aS (ns++[x]);have eTk:List.take ns.length (List.drop 0 (aY ns))=aY ns:=by rw[Re];exact RJ (by rw[bF];omega)
    have hxs:aY (ns++[x])=aY ns++[bL x]:=by simp[aY]
    have hsn:=fun h=>hT.snoc (x:=x) om hx h
    have hw5:=gP kk0 (show (0:Int)<5 by omega);have hlf:=hT.leaf (m:=kk.tmod 5) ⟨om,om⟩;obtain⟨e,he⟩:∃e,e=cL (ns++[x]):=⟨_,rfl⟩
    rw[←he] at hV hsn;obtain⟨kind,name,lo,hi,ws,ls,vals,kids,⟨vk,vn,vs,vks⟩⟩:=x;refine Rr ?_;refine aK (K2 (by rw[bF];omega)) ?_;rw[eTk];refine Rr ?_;refine aK (uY rfl (by rw[bF];omega)) ?_;refine Rr ?_;refine aK (bM rfl rfl rfl (by rw[bF];simp;omega)) ?_;refine Rr ?_;refine aF.useN bD [(7,0)] hV rfl (.cons (.agg' (.cons (.slE rfl (by rw[bF];simp)) .nil)) .nil) ⟨⟨7,_,rfl,rfl,.eq hnn2 (by rw[hxs];rfl)⟩,trivial⟩ rfl ?_;rintro r m k' ⟨rfl,rfl⟩;refine⟨[(0,7)],_,[(7,.row 59 12 (aY (ns++[⟨kind,name,lo,hi,ws,ls,vals,kids,.mk vk vn vs vks⟩])))],8,.same _ nn,⟨aJ 0 hnn2,trivial⟩,rfl, ?_⟩;by_cases e0:e=0
    ·subst e0;refine Rr ?_;exact .mk (ns++[⟨kind,name,lo,hi,ws,ls,vals,kids,.mk vk vn vs vks⟩]) [(0,0),(1,1),(7,2)] ⟨hsn rfl,by simp;omega⟩
      (aI _ rfl ⟨aJ 0 cC,⟨1,_,rfl,rfl,.cons (.agg (.cons (.slE rfl (by rw[bF];simp)) .nil)) .nil⟩,aJ 7 hnn2,trivial⟩ ⟨aG,aM,aM,aG,⟨_,rfl,.w64 (by simp) ⟨by simp;omega,by simp;omega⟩⟩,trivial⟩) (by simp;omega)
    ·have de:(e == 0)=false:=by simpa using e0
     refine Rr ?_;rw[de];refine Rr ?_;refine aK (bM rfl rfl (by rw[bF]) (by simp;omega)) ?_;refine Rr ?_;have hlx:aY (ns++[⟨0,[],0,0,[],[],[],[],.mk 0 (kk.tmod 5) [] []⟩])=aY ns++[bL ⟨0,[],0,0,[],[],[],[],.mk 0 (kk.tmod 5) [] []⟩]:=by simp[aY]
     exact .mk (ns++[⟨0,[],0,0,[],[],[],[],.mk 0 (kk.tmod 5) [] []⟩]) [(0,0),(1,1),(9,2)] ⟨hlf,by simp;omega⟩
      (aI _ rfl ⟨aJ 0 cC,⟨1,_,rfl,rfl,.cons (.agg (.cons (.slE rfl (by simp)) .nil)) .nil⟩,⟨9,_,rfl,rfl,by rw[hlx];exact .snoc rfl (.same (aS _)) (.agg (.s (.s (.s (.s (.cons (.nil 1) (.cons (.nil 1) (.cons (.nil 4) (.cons (.nil 1) (.s (.s (.s (.cons (.nil 4) .nil)))))))))))))⟩,trivial⟩ ⟨aG,aM,aM,aG,⟨_,rfl,.w64 (by simp) ⟨by simp;omega,by simp;omega⟩⟩,trivial⟩) (by simp;omega)
 ·have hlt:ns.length=n:=by simp at h;omega
  refine Rr ?_;exact b8 (r':=.agg [.sl 0 0 ns.length]) (m':=tM ns) (n':=1) [(2,0)] rfl ⟨aJ 2 (aS _),trivial⟩ (.agg' (.cons (.sl 2 0 0 _ rfl) .nil)) ⟨ns,hT,om,rfl,rfl,rfl⟩
end Go.Proofs.YtpajadlnaokngaaGreatDoor
namespace Go.Ax
open Go
def Pd(p s:List UInt8):Option (List UInt8):=if p.isPrefixOf s then some (s.drop p.length) else none
structure P0(x:Nd):Prop where
 ok:pL x
 rng:x.lo<=x.hi/\-4611686018427387904<=x.lo/\x.hi<=4611686018427387904/\x.hi<x.lo+1099511627776
 klen:x.kids.length<=2000
 kl2:x.kind=2->x.kids.length<=1000
 ch:x.kind=2->1<=x.kids.length/\(x.labels.length=0∨x.labels.length=x.kids.length)
theorem uB(ns:List Nd)(h:bI [] ns=0):∀(j:Nat) (x:Nd),ns[j]? = some x->dF j x=0:=by
 refine eR (P:=fun ns=>bI [] ns=0->∀(j:Nat) (x:Nd),ns[j]? = some x->dF j x=0) (fun _ j x hx=>by simp at hx) (fun l x ih h=>?_) ns h;have h1:=f6 h;have ih:=ih h1;have hs:=dL [] l x h1;rw[h] at hs;simp only[Rb] at hs;obtain⟨hg,-,-,-⟩:=eE hs.symm;intro j y hy;rcases Q6 j l.length with hj|hj
 ·rw[RN hj] at hy;exact ih j y hy
 ·rw[RR hj] at hy;have e:j-l.length=0:=by
   have:=(Qv.1 hy).1;simp at this;omega
  rw[e] at hy;simp at hy;subst hy;rw[show j=l.length by omega];exact hg
structure Qo(LB:List (List UInt8))(x:Nd):Prop where
 opt:P0 x
 lab:∀s∈x.labels,s∈LB
 ll:x.labels.length<=1000
end Go.Ax
